/- Operations on memory are run rightly: each step holds of the model's own run. Conditions: those that each theorem states. -/
/- A checked abstract run of Go functions: operations that make or write memory. -/
import Derived.Test.YthgmnlfbgajchaaVaiDeep
import Derived.Maps.AppendAt
import Derived.Laws.OwnMore
namespace Go.Proofs.YthgmnlfbgajchaaV
set_option linter.unusedVariables false
set_option linter.unusedSimpArgs false
/-- What an operation comes to. -/
def Gives (P : Program) (a : Act) (w : World) (o : Oper) (N : Value → World → Prop) : Prop := match (execOp a.eval o).run P w with
  | .ok (.value v) w' => N v w'
  | .ok .skip w' => N undef w'
  | .ok (.enter f args) w' => Calls P f args w' fun e w'' => ∃ v, e = .returned v ∧ N v w''
  | _ => False
def OkMv (w : World) (g : Gh) (w' : World) (g' : Gh) : Prop := ∀ k, g.ok k → k < w.heap.size → w'.heap[k]? = w.heap[k]? ∧ g'.ok k
/-- The names of parameters: none comes up again, and each keeps its place. -/
def PB : Nat := 3000000
def RB : Nat := 20000000
def Nm (g g' : Gh) : Prop := ∀ n, PB ≤ n → n < RB → n % 8 = 0 → g'.live n → g.live n ∧ g'.val n = g.val n
theorem Nm.refl (g : Gh) : Nm g g := fun _ _ _ _ h => ⟨h, rfl⟩
theorem Nm.trans {g g' g'' : Gh} (h : Nm g g') (h' : Nm g' g'') : Nm g g'' := fun n h1 h2 h3 hl => ⟨(h n h1 h2 h3 (h' n h1 h2 h3 hl).1).1, (h' n h1 h2 h3 hl).2.trans (h n h1 h2 h3 (h' n h1 h2 h3 hl).1).2⟩
theorem Nm.set {g : Gh} {d : Nat} {v : Value} (hd : d < PB) : Nm g (g.set d v) := fun n h1 _ _ hl => by
  have e : n ≠ d := by omega
  exact ⟨hl.resolve_right e, if_neg e⟩
theorem Nm.same {g : Gh} {b : Nat} (hb : g.live b) : Nm g (g.set b (g.val b)) := fun n _ _ _ hl => by
  by_cases e : n = b
  · exact ⟨e ▸ hb, by show (if n = b then g.val b else g.val n) = g.val n; rw [if_pos e, e]⟩
  · exact ⟨hl.resolve_right e, if_neg e⟩
theorem Less.nm {g g' : Gh} (h : ∀ n, g'.live n → g.live n ∧ g'.val n = g.val n) : Nm g g' := fun n _ _ _ hl => h n hl
/-- The own rows and boxes that an operation writes, or gives to another. -/
def touch (s : St) : Op → List Nat
  | .store _ a v => nameOf (opd s a) ++ nameOf (opd s v)
  | .mapUpdate _ m _ _ => nameOf (opd s m)
  | .next y _ => nameOf (opd s y)
  | .call c => match c.args.toList with
    | x :: _ => nameOf (opd s x)
    | [] => []
  | _ => []
theorem OkMv.refl (w : World) (g : Gh) : OkMv w g w g := fun _ h _ => ⟨rfl, h⟩
theorem OkMv.trans {w w' w'' : World} {g g' g'' : Gh} (h : OkMv w g w' g') (h' : OkMv w' g' w'' g'') : OkMv w g w'' g'' := fun k hk hlt => by
  obtain ⟨e, hk'⟩ := h k hk hlt
  have hlt' : k < w'.heap.size := by
    rcases Nat.lt_or_ge k w'.heap.size with h | h
    · exact h
    · rw [Array.getElem?_eq_none h, Array.getElem?_eq_getElem hlt] at e; cases e
  obtain ⟨e2, hk2⟩ := h' k hk' hlt'
  exact ⟨e2.trans e, hk2⟩
/-- What one operation changes: it may make the name 'd' (and names of results), and write what is named in 'T'. -/
structure Chg (d : Nat) (T : List Nat) (w : World) (g : Gh) (w' : World) (g' : Gh) : Prop where
  ok : OkMv w g w' g'
  nm : ∀ n, n < RB → n ≠ d → g'.live n → g.live n ∧ g'.val n = g.val n ∧ (n ∉ T → g'.inn n = g.inn n)
  un : ∀ n k, n ∉ T → g.live n → g.has n k → w'.heap[k]? = w.heap[k]? ∧ (g'.ok k ∨ g'.live n)
theorem Chg.refl (d : Nat) (T : List Nat) (w : World) (g : Gh) : Chg d T w g w g := ⟨OkMv.refl w g, fun _ _ _ h => ⟨h, rfl, fun _ => rfl⟩, fun _ _ _ h _ => ⟨rfl, .inr h⟩⟩
theorem Chg.nms {d : Nat} {T : List Nat} {w w' : World} {g g' : Gh} (h : Chg d T w g w' g') (hd : d < PB) : Nm g g' := fun n h1 h2 _ hl => by
  have := h.nm n h2 (by omega) hl
  exact ⟨this.1, this.2.1⟩
/-- Own rows that are given away: the world stays. -/
structure Frz (g g1 : Gh) : Prop where
  ok : ∀ k, g.ok k → g1.ok k
  less : ∀ n, g1.live n → g.live n ∧ g1.val n = g.val n ∧ g1.inn n = g.inn n
  gone : ∀ n k, g.live n → g.has n k → g1.ok k ∨ g1.live n
theorem has_same {g g1 : Gh} {n b k : Nat} (h1 : g1.val n = g.val b) (h2 : g1.inn n = g.inn b) : g1.has n k ↔ g.has b k := by simp only [Gh.has, h1, h2]
theorem Frz.refl (g : Gh) : Frz g g := ⟨fun _ h => h, fun _ h => ⟨h, rfl, rfl⟩, fun _ _ h _ => .inr h⟩
theorem Frz.trans {g g1 g2 : Gh} (h : Frz g g1) (h' : Frz g1 g2) : Frz g g2 := ⟨fun k hk => h'.ok k (h.ok k hk), fun n hn => by
    obtain ⟨a1, a2, a3⟩ := h'.less n hn
    obtain ⟨b1, b2, b3⟩ := h.less n a1
    exact ⟨b1, a2.trans b2, a3.trans b3⟩, fun n k hl hk => by
    rcases h.gone n k hl hk with h1 | h1
    · exact .inl (h'.ok k h1)
    · exact h'.gone n k h1 ((has_same (h.less n h1).2.1 (h.less n h1).2.2).2 hk)⟩
theorem Frz.okMv {w : World} {g g1 : Gh} (h : Frz g g1) : OkMv w g w g1 := fun k hk _ => ⟨rfl, h.ok k hk⟩
theorem Frz.nm {g g1 : Gh} (h : Frz g g1) : Nm g g1 := Less.nm fun n hn => ⟨(h.less n hn).1, (h.less n hn).2.1⟩
section
variable {P : Program} {α : Type} {X : Cx} {s : St} {a : Act} {w : World} {g : Gh} {x : α}
theorem Chg.frz (h : Sim X s a w g) {d : Nat} {T : List Nat} {g1 : Gh} {w' : World} {g' : Gh} (f : Frz g g1) (c : Chg d T w g1 w' g') : Chg d T w g w' g' := ⟨f.okMv.trans c.ok, fun n h1 h2 hl => by
    obtain ⟨a1, a2, a3⟩ := c.nm n h1 h2 hl
    obtain ⟨b1, b2, b3⟩ := f.less n a1
    exact ⟨b1, a2.trans b2, fun hn => (a3 hn).trans b3⟩, fun n k hn hl hk => by
    rcases f.gone n k hl hk with h1 | h1
    · have := c.ok k h1 (h.own n k hl hk).1
      exact ⟨this.1, .inl this.2⟩
    · exact c.un n k hn h1 ((has_same (f.less n h1).2.1 (f.less n h1).2.2).2 hk)⟩
def OpOk (P : Program) (X : Cx) (a : Act) (w : World) (g : Gh) (d : Nat) (T : List Nat) (op : Op) (K : St → AV → Option α) (x : α) : Prop :=
  ∀ N : Value → World → Prop, (∀ s' v cv w' g', K s' v = some x → Sim X s' a w' g' → RV w' g' v cv → Chg d T w g w' g' → N cv w') → ∀ o : Oper, o.op = op → Gives P a w o N
variable {K : St → AV → Option α}
theorem Gives.value {o : Oper} {N : Value → World → Prop} {v : Value} {w' : World} (h : (execOp a.eval o).run P w = .ok (.value v) w') (hn : N v w') : Gives P a w o N := by unfold Gives; rw [h]; exact hn
theorem Gives.skip {o : Oper} {N : Value → World → Prop} {w' : World} (h : (execOp a.eval o).run P w = .ok .skip w') (hn : N undef w') : Gives P a w o N := by unfold Gives; rw [h]; exact hn
/-! ### New blocks -/
theorem mv_set {d : Nat} {w' : World} {v : Value} (hd : ¬ g.live d) (hg : w.grownBy w' none) : Mv w g (fun _ => False) w' (g.set d v) :=
  ⟨fun k hk hlt => ⟨hg.block k hlt (by simp), hk⟩, fun n _ hl => ⟨.inl hl, if_neg (fun e : n = d => hd (by rw [← e]; exact hl)), if_neg (fun e : n = d => hd (by rw [← e]; exact hl))⟩⟩
/-- A new block under the name 'd'. -/
theorem Chg.set (h : Sim X s a w g) {d : Nat} {T : List Nat} {w' : World} {v : Value} {inn : List Nat → Option Value} (hg : w.grownBy w' none) : Chg d T w g w' (g.set d v inn) :=
  ⟨fun k hk hlt => ⟨hg.block k hlt (by simp), hk⟩, fun n _ hn hl => ⟨hl.resolve_right hn, if_neg hn, fun _ => if_neg hn⟩, fun n k _ hl hk => ⟨hg.block k (h.own n k hl hk).1 (by simp), .inr (.inl hl)⟩⟩
/-- A name's own block is written. -/
theorem Chg.row (h : Sim X s a w g) {d : Nat} {T : List Nat} {w' : World} {b k0 : Nat} (hb : g.live b) (hT : b ∈ T) (hk0 : g.has b k0) (hg : w.grownBy w' (some k0)) {inn : List Nat → Option Value} : Chg d T w g w' (g.set b (g.val b) inn) :=
  ⟨fun k hk hlt => ⟨hg.block k hlt (fun e => (h.own b k hb (by cases e; exact hk0)).2.2 hk), hk⟩, fun n _ hn hl => by
    by_cases e : n = b
    · subst e
      exact ⟨hb, if_pos rfl, fun hn => absurd hT hn⟩
    · exact ⟨hl.resolve_right e, if_neg e, fun _ => if_neg e⟩, fun n k hn hl hk => ⟨hg.block k (h.own n k hl hk).1 (fun e => hn (by rw [h.disj n b k hl hb hk (by cases e; exact hk0)]; exact hT)), .inr (.inl hl)⟩⟩
theorem not_live (h : Sim X s a w g) {d : Nat} (hd : hget s.heap d = none) : ¬ g.live d := fun hl => by
  have := (h.live d).1 hl; rw [hd] at this; cases this
theorem hget_cons (d n : Nat) (x : Blk) (heap : List (Nat × Blk)) : hget ((d, x) :: heap) n = if n = d then some x else hget heap n := by
  simp only [hget]
  by_cases e : n = d
  · subst e; simp
  · rw [beq_ne (Ne.symm e), if_neg e]; rfl
theorem Sim.fresh (h : Sim X s a w g) {d : Nat} (hd : hget s.heap d = none) {x : Blk} {v : Value} {w' : World} (hg : w.grownBy w' none) (hv : ∀ k, blkOf v = some k → w.heap.size ≤ k ∧ k < w'.heap.size)
    (hx : BlkRel X.B w' (g.set d v) d x) : Sim X ⟨s.env, (d, x) :: s.heap⟩ a w' (g.set d v) :=
  h.upd d x v _ none (fun n => hget_cons d n x s.heap) hg (fun k e => by cases e) (fun hl => absurd hl (not_live h hd)) (fun k hk => ⟨(hv k hk).2, .inr (hv k hk).1⟩) hx
theorem okMv_set {d : Nat} {w' : World} {v : Value} (hg : w.grownBy w' none) : OkMv w g w' (g.set d v) := fun k hk hlt => ⟨hg.block k hlt (by simp), hk⟩
theorem boxX_ok (h : Sim X s a w g) {d : Nat} {T : List Nat} {cs : List AV} {cells : Array Value} (e : TypeId) (hr : RVs w g cs cells.toList) {op : Op} (hrun : ∀ o : Oper, o.op = op → (execOp a.eval o).run P w = .ok (.value (.pointer (some ⟨w.heap.size, 0, none⟩))) (w.alloc (.cells cells e)))
    (he : boxX d s cs K = some x) : OpOk P X a w g d T op K x := by
  intro N hN o ho
  unfold boxX at he
  split at he
  · rename_i hd
    have hg := World.grownBy_alloc w (.cells cells e) none
    have hl := not_live h hd
    have hs := h.fresh hd (x := .box false cs) (v := .pointer (some ⟨w.heap.size, 0, none⟩)) hg (fun k hk => by cases hk; exact ⟨Nat.le_refl _, by show w.heap.size < (w.heap.push _).size; rw [Array.size_push]; omega⟩)
      ⟨w.heap.size, cells.toList, e, if_pos rfl, h.base, by rw [Array.toArray_toList]; exact heap_alloc_new w _, hr.move (mv_set hl hg)⟩
    exact .value (hrun o ho) (hN _ _ _ _ _ he hs ⟨.inr rfl, w.heap.size, if_pos rfl, rfl⟩ (Chg.set h hg))
  · cases he
/-! ### Kinds out of cells -/
theorem take_ok : ∀ (t : Ty) {as : List AV} {vs : List Value} {y : t.T} {r : List AV}, RVs w g as vs → t.take as = some (y, r) → ∃ v1 v2, vs = v1 ++ v2 ∧ Rep w g.ok t y v1 ∧ RVs w g r v2 := by
  intro t
  induction t with
  | pr a b iha ihb =>
    intro as vs y r h e
    simp only [Ty.take] at e
    split at e
    · rename_i y1 r1 h1
      split at e
      · rename_i y2 r2 h2
        cases e
        obtain ⟨v1, v2, rfl, q1, q2⟩ := iha h h1
        obtain ⟨v3, v4, rfl, q3, q4⟩ := ihb q2 h2
        exact ⟨v1 ++ v3, v4, by rw [List.append_assoc], ⟨v1, v3, rfl, q1, q3⟩, q4⟩
      · cases e
    · cases e
  | int k =>
    intro as vs y r h e
    match as, vs, h with
    | [], _, _ => simp [Ty.take] at e
    | v :: as, u :: vs, h =>
      cases v <;> first | (simp [Ty.take] at e; done) | skip
      simp only [Ty.take] at e
      split at e
      · rename_i hk
        cases e; cases hk
        exact ⟨[u], vs, rfl, by rw [show u = _ from h.1]; rfl, h.2⟩
      · cases e
  | bool =>
    intro as vs y r h e
    match as, vs, h with
    | [], _, _ => simp [Ty.take] at e
    | v :: as, u :: vs, h =>
      cases v <;> first | (simp [Ty.take] at e; done) | skip
      simp only [Ty.take] at e
      cases e
      exact ⟨[u], vs, rfl, by rw [show u = _ from h.1]; rfl, h.2⟩
  | str =>
    intro as vs y r h e
    match as, vs, h with
    | [], _, _ => simp [Ty.take] at e
    | v :: as, u :: vs, h =>
      cases v <;> first | (simp [Ty.take] at e; done) | skip
      simp only [Ty.take] at e
      cases e
      exact ⟨[u], vs, rfl, by rw [show u = _ from h.1]; rfl, h.2⟩
  | slc e' t' _ =>
    intro as vs y r h e
    match as, vs, h with
    | [], _, _ => simp [Ty.take] at e
    | v :: as, u :: vs, h =>
      cases v <;> first | (simp [Ty.take] at e; done) | skip
      · simp only [Ty.take] at e
        split at e
        · rename_i ht
          subst ht
          obtain ⟨_, e⟩ := cond_some e
          cases e
          exact ⟨[u], vs, rfl, ⟨u, rfl, h.1⟩, h.2⟩
        · cases e
      · simp only [Ty.take] at e
        cases e
        exact ⟨[u], vs, rfl, ⟨u, rfl, none, 0, h.1, Nat.le_refl _, fun _ => rfl, .inl rfl⟩, h.2⟩
theorem all_ok {t : Ty} {as : List AV} {vs : List Value} {y : t.T} (h : RVs w g as vs) (e : t.all as = some y) : Rep w g.ok t y vs := by
  unfold Ty.all at e
  split at e
  · rename_i y' ht
    cases e
    obtain ⟨v1, v2, rfl, h1, h2⟩ := take_ok t h ht
    cases v2 with
    | nil => rw [List.append_nil]; exact h1
    | cons _ _ => exact h2.elim
  · cases e
theorem alls_ok {t : Ty} : ∀ {n : Nat} {as : List AV} {vs : List Value} {l : List t.T}, RVs w g as vs → t.alls n as = some l → Reps w g.ok t l vs ∧ l.length = n
  | 0, [], vs, l, h, e => by
    cases vs with
    | nil => simp only [Ty.alls, Option.some.injEq] at e; subst e; exact ⟨rfl, rfl⟩
    | cons _ _ => exact h.elim
  | 0, _ :: _, _, _, _, e => by simp [Ty.alls] at e
  | n + 1, as, vs, l, h, e => by
    simp only [Ty.alls] at e
    split at e
    · rename_i y r ht
      split at e
      · rename_i l' hl
        cases e
        obtain ⟨v1, v2, rfl, h1, h2⟩ := take_ok t h ht
        obtain ⟨h3, h4⟩ := alls_ok h2 hl
        exact ⟨⟨v1, v2, rfl, h1, h3⟩, by rw [List.length_cons, h4]⟩
      · cases e
    · cases e
theorem Rep.one : ∀ {t : Ty} {y : t.T} {cs : List Value}, Rep w g.ok t y cs → ∀ u ∈ cs, u.oneCell' = true
  | .int _, _, _, h => by rw [show _ = _ from h]; simp [Value.oneCell']
  | .bool, _, _, h => by rw [show _ = _ from h]; simp [Value.oneCell']
  | .str, _, _, h => by rw [show _ = _ from h]; simp [Value.oneCell']
  | .slc _ _, _, _, ⟨_, h, A, c, hv, _⟩ => by rw [h, hv]; simp [Value.oneCell']
  | .pr _ _, _, _, ⟨c1, c2, h, h1, h2⟩ => by
    rw [h]; intro u hu
    rcases List.mem_append.1 hu with hu | hu
    · exact h1.one u hu
    · exact h2.one u hu
theorem Reps.one {t : Ty} : ∀ {l : List t.T} {cs : List Value}, Reps w g.ok t l cs → ∀ u ∈ cs, u.oneCell' = true
  | [], _, h => by rw [show _ = _ from h]; simp
  | _ :: _, _, ⟨c1, c2, h, h1, h2⟩ => by
    rw [h]; intro u hu
    rcases List.mem_append.1 hu with hu | hu
    · exact h1.one u hu
    · exact h2.one u hu
/-- A row that is read, as cells one after the other. -/
theorem RowAt.reps {t : Ty} {ad : Addr} : ∀ (l : List t.T) (k : Nat), (∀ (j : Nat) y, l[j]? = some y → ∃ cc : List Value, cc.length = t.sz ∧ Rep w g.ok t y cc ∧ ∀ (i : Nat) u, cc[i]? = some u → w.cell? (ad.add ((k + j) * t.sz + i)) = some u) →
    ∃ news : List Value, Reps w g.ok t l news ∧ ∀ (i : Nat) u, news[i]? = some u → w.cell? (ad.add (k * t.sz + i)) = some u
  | [], k, _ => ⟨[], rfl, fun i u h => by simp at h⟩
  | y :: l, k, h => by
    obtain ⟨cc, h1, h2, h3⟩ := h 0 y rfl
    obtain ⟨news, h4, h5⟩ := RowAt.reps l (k + 1) (fun j z hz => by
      have := h (j + 1) z (by simpa using hz)
      rw [show k + 1 + j = k + (j + 1) by omega]; exact this)
    refine ⟨cc ++ news, ⟨cc, news, rfl, h2, h4⟩, fun i u hu => ?_⟩
    by_cases hi : i < cc.length
    · rw [List.getElem?_append_left hi] at hu
      exact h3 i u hu
    · rw [List.getElem?_append_right (by omega)] at hu
      have := h5 (i - cc.length) u hu
      rw [Nat.succ_mul, h1] at this
      rw [show k * t.sz + i = k * t.sz + t.sz + (i - t.sz) by omega]; exact this
theorem castL_some {t t' : Ty} {l : List t'.T} {l' : List t.T} (h : castL t t' l = some l') : t' = t ∧ HEq l' l := by
  unfold castL at h
  split at h
  · rename_i e
    subst e
    cases h
    exact ⟨rfl, HEq.rfl⟩
  · cases h
/-- A row that is read: its slice, and its cells. -/
theorem rowOf_ok (h : Sim X s a w g) {ty : Ty} {v : AV} {cv : Value} (hv : RV w g v cv) {l : List ty.T} (he : rowOf s ty v = some l) :
    (cv = .slice none 0 0 ∧ l = []) ∨ ∃ ad c news, cv = .slice (some ad) l.length c ∧ Reps w g.ok ty l news ∧ ∀ (i : Nat) u, news[i]? = some u → w.cell? (ad.add i) = some u := by
  have row : ∀ (e : Nat) (t' : Ty) (l' : List t'.T), RowAt (Rep w g.ok t') t'.sz w g.ok l' cv → castL ty t' l' = some l → (cv = .slice none 0 0 ∧ l = []) ∨ ∃ ad c news, cv = .slice (some ad) l.length c ∧ Reps w g.ok ty l news ∧ ∀ (i : Nat) u, news[i]? = some u → w.cell? (ad.add i) = some u := by
    intro e t' l' hr hc
    obtain ⟨rfl, hq⟩ := castL_some hc
    cases hq
    obtain ⟨A, c, hv, hlc, hz, hr⟩ := hr
    cases A with
    | none =>
      have := hz rfl
      subst this
      have : l' = [] := List.eq_nil_of_length_eq_zero (by omega)
      subst this
      exact .inl ⟨hv, rfl⟩
    | some ad =>
      rcases hr with rfl | ⟨ad', e1, hok, hcell⟩
      · exact .inr ⟨ad, c, [], hv, rfl, fun i u hu => by simp at hu⟩
      · cases e1
        obtain ⟨news, h1, h2⟩ := RowAt.reps (w := w) (g := g) (ad := ad) l' 0 (fun j y hj => by
          obtain ⟨cc, q1, q2, q3⟩ := hcell j y hj
          exact ⟨cc, q1, q2, fun i u hu => by rw [Nat.zero_add]; exact q3 i u hu⟩)
        exact .inr ⟨ad, c, news, hv, h1, fun i u hu => by have := h2 i u hu; rw [Nat.zero_mul, Nat.zero_add] at this; exact this⟩
  unfold rowOf at he
  cases v with
  | own b =>
    simp only at he
    cases hb : hget s.heap b with
    | none => rw [hb] at he; cases he
    | some y =>
      cases y with
      | box pin cs => rw [hb] at he; cases he
      | deep e t l => rw [hb] at he; cases he
      | obj k y => rw [hb] at he; cases he
      | row pin e t' l' =>
        rw [hb] at he
        simp only at he
        obtain ⟨rfl, hq⟩ := castL_some he
        cases hq
        obtain ⟨inner, ho, hr⟩ := h.blk b _ hb
        have hvb : cv = g.val b := hv.2
        rcases ho.2 with ⟨h1, h2⟩ | ⟨k, cap, cur, h1, h2, h3, h4, h5, h6, h7⟩
        · exact .inl ⟨hvb.trans h1, List.eq_nil_of_length_eq_zero h2⟩
        · refine .inr ⟨⟨k, 0, none⟩, cap, inner, hvb.trans h1, hr, ?_⟩
          exact ho.cells (g := k) (by rw [h1]; rfl)
  | row e t' l' => exact row e t' l' hv he
  | nilS =>
    simp only [Option.some.injEq] at he
    subst he
    exact .inl ⟨hv, rfl⟩
  | _ => cases he
/-! ### Rows that are made -/
theorem elemX_some {t : TypeId} {K' : TypeId → TypeInfo → (ty : Ty) → Value → Option α} (h : elemX P t K' = some x) : ∃ e i ty z, P.underlying t = some (.slice e) ∧ P.info? e = some i ∧ i.zero = some z ∧ i.size = ty.sz ∧ z.cells.size = i.size ∧ K' e i ty z = some x := by
  unfold elemX at h
  split at h
  · rename_i e hu
    split at h
    · rename_i i ty hi ht
      split at h
      · rename_i z hz
        obtain ⟨h0, h⟩ := chk_some h
        simp only [Bool.and_eq_true] at h0
        exact ⟨e, i, ty, z, hu, hi, hz, Nat.eq_of_beq_eq_true h0.1, Nat.eq_of_beq_eq_true h0.2, h⟩
      · cases h
    · cases h
  · cases h
theorem most_ok {i : TypeInfo} {n : Nat} (h : n ≤ most i) : n * i.bytes ≤ 140737488355328 ∧ n ≤ maxLen := by
  unfold most at h
  have h1 : n * (i.bytes + 1) ≤ 140737488355328 := (Nat.le_div_iff_mul_le (by omega)).1 h
  have h2 : n * (i.bytes + 1) = n * i.bytes + n := by rw [Nat.mul_add, Nat.mul_one]
  refine ⟨by omega, ?_⟩
  simp only [maxLen]; omega
theorem own_set {B : Nat} {pin : Bool} {e : Nat} {ty : Ty} {l : List ty.T} {w' : World} {d : Nat} {v : Value} {inner : List Value} (ho : w'.ownsRow (bif pin then 0 else B) e ty.sz v l.length inner) (hr : Reps w' g.ok ty l inner) : BlkRel B w' (g.set d v) d (.row pin e ty l) :=
  ⟨inner, by rw [show (g.set d v).val d = v from if_pos rfl]; exact ho, hr⟩
theorem blkOf_own {v : Value} {k : Nat} (h : ∀ b, v ≠ .pointer b ∧ v ≠ .map (b.map Addr.block)) : blkOf v = some k ↔ v.ownBlock = some k := by
  cases v with
  | slice A n c => cases A <;> simp [blkOf, Value.ownBlock]
  | pointer b => exact absurd rfl (h b).1
  | map r => cases r with
    | none => simp [blkOf, Value.ownBlock]
    | some r => exact absurd rfl (h (some ⟨r, 0, none⟩)).2
  | _ => simp [blkOf, Value.ownBlock]
theorem own_slice {base e sz n : Nat} {v : Value} {xs : List Value} (h : w.ownsRow base e sz v n xs) : ∀ b, v ≠ .pointer b ∧ v ≠ .map (b.map Addr.block) := by
  intro b
  refine ⟨fun e' => ?_, fun e' => ?_⟩ <;> (rcases h.2 with ⟨h1, _⟩ | ⟨k, c, cur, h1, _⟩ <;> rw [h1] at e' <;> cases e')
theorem appX_ok (h : Sim X s a w g) {d : Nat} {t : TypeId} {y z : Operand} {c : Call} (hc : c.callee = .builtin .append) (hca : c.args.toList = [y, z]) (hct : c.argTypes.toList = [t, t])
    (he : appX P d s t (opd s y) (opd s z) K = some x) : OpOk P X a w g d (nameOf (opd s y)) (.call c) K x := by
  intro N hN o ho
  have ha : c.args = #[y, z] := by rw [← Array.toArray_toList (xs := c.args), hca]
  have hat : c.argTypes = #[t, t] := by rw [← Array.toArray_toList (xs := c.argTypes), hct]
  unfold appX at he
  obtain ⟨e, i, ty, z0, hu, hi, hz, hsz, hzs, he⟩ := elemX_some he
  have run : ∀ (u v r : Value) (w' : World), a.eval y = u → a.eval z = v → (∀ t', (Builtin.append_ #[t, t] t' #[u, v]).run P w = .ok r w') → (execOp a.eval o).run P w = .ok (.value r) w' := by
    intro u v r w' e1 e2 hb
    simp [execOp, ho, resolve, hc, ha, hat, invoke, builtin, e1, e2, hb]
  split at he
  · rename_i l' hrow
    have hzv := rowOf_ok h (h.opd z) hrow
    have hy := h.opd y
    -- the append itself, out of an own row
    have app : ∀ (pin : Bool) (l : List ty.T) (inner : List Value), w.ownsRow (bif pin then 0 else X.B) e ty.sz (a.eval y) l.length inner → Reps w g.ok ty l inner → l.length + l'.length ≤ most i →
        ∃ r w' inner', (∀ t', (Builtin.append_ #[t, t] t' #[a.eval y, a.eval z]).run P w = .ok r w') ∧ w'.ownsRow (bif pin then 0 else X.B) e ty.sz r (l ++ l').length inner' ∧ w.grownBy w' (a.eval y).ownBlock ∧ (r.ownBlock = (a.eval y).ownBlock ∨ r.ownBlock = some w.heap.size) ∧
          (∀ g' : Gh, (∀ k, g.ok k → k < w.heap.size → w'.heap[k]? = w.heap[k]? ∧ g'.ok k) → Reps w' g'.ok ty (l ++ l') inner') := by
      intro pin l inner hown hreps hm
      have hbase : (bif pin then 0 else X.B) ≤ w.heap.size := by
        cases pin with
        | false => exact h.base
        | true => exact Nat.zero_le _
      obtain ⟨hm1, hm2⟩ := most_ok hm
      rcases hzv with ⟨hv, rfl⟩ | ⟨ad, cc, news, hv, hnews, hcell⟩
      · refine ⟨a.eval y, w, inner, fun t' => ?_, by rw [List.append_nil]; exact hown, ⟨rfl, rfl, rfl, Nat.le_refl _, fun _ _ _ => rfl⟩, .inl rfl, fun g' hg' => by rw [List.append_nil]; exact hreps.move hg'⟩
        rw [hv]
        exact run_append_owned_none (P := P) (w := w) _ t t' e i ty.sz hu hi (a.eval y) l.length inner hown
      · have := fun t' => run_append_own_at (P := P) (w := w) (bif pin then 0 else X.B) t t' e i z0 ty.sz i.bytes hu hi hz hsz rfl (hzs.trans hsz) ty.sz_pos (a.eval y) l.length inner hown ad l'.length cc news hnews.len hcell hnews.one hm2 hm1 hbase
        obtain ⟨r, w', hr, h1, h2, _, h4⟩ := this 0
        refine ⟨r, w', inner ++ news, fun t' => ?_, by rw [List.length_append]; exact h1, h2, h4, fun g' hg' => (hreps.move hg').app (hnews.move hg')⟩
        rw [hv]; exact hr
    split at he
    · rename_i hyv
      obtain ⟨h0, he⟩ := chk_some he
      have h0 := of_decide_eq_true h0
      rw [hyv] at hy
      have hy : a.eval y = .slice none 0 0 := hy
      split at he
      · rename_i hd
        obtain ⟨r, w', inner', h1, h2, h3, h4, h5⟩ := app false [] [] (by rw [hy]; exact World.ownsRow_nil _ _ _ _) rfl (by simpa using h0)
        rw [hy] at h3 h4
        have h3' : w.grownBy w' none := h3
        have hok := okMv_set (g := g) (d := d) (v := r) h3'
        rw [List.nil_append] at h2 h5
        have hs := h.fresh hd (x := .row false e ty l') (v := r) h3' (fun k hk => by
          have hk := (blkOf_own (own_slice h2)).1 hk
          have := h2.lt k hk
          rcases h4 with h4 | h4
          · rw [h4] at hk; cases hk
          · rw [h4] at hk; cases hk; exact ⟨Nat.le_refl _, this.2⟩) (own_set h2 (h5 _ hok))
        exact .value (run _ _ r w' rfl rfl h1) (hN _ _ _ _ _ he hs ⟨.inr rfl, (if_pos rfl).symm⟩ (Chg.set h h3'))
      · cases he
    · rename_i b hyv
      rw [hyv] at hy
      have hyb : a.eval y = g.val b := hy.2
      split at he
      · rename_i pin e' ty' l hb
        split at he
        · rename_i l2 hcast
          obtain ⟨rfl, hq⟩ := castL_some hcast
          cases hq
          obtain ⟨h6, he⟩ := chk_some he
          obtain ⟨h7, he⟩ := chk_some he
          have h6 : e' = e := Nat.eq_of_beq_eq_true h6
          subst h6
          have h7 := of_decide_eq_true h7
          split at he
          · rename_i hd
            obtain ⟨inner, hown, hreps⟩ := h.blk b _ hb
            obtain ⟨r, w', inner', h1, h2, h3, h4, h5⟩ := app pin l inner (by rw [hyb]; exact hown) hreps h7
            rw [hyb] at h3 h4
            have hk := h.kill b g.ok (fun _ hk => hk) .bad (fun k hk => .inl hk) (fun _ => trivial)
            have hrow : ∀ k, (g.val b).ownBlock = some k → ¬ g.ok k ∧ (∀ n, n ≠ d → (g.kill b g.ok).live n → ¬ (g.kill b g.ok).has n k) ∧ (k < X.B → X.M k) := by
              intro k hkb
              have hkb : g.has b k := .inl ((blkOf_own (own_slice hown)).2 hkb)
              have := h.own b k hy.1 hkb
              exact ⟨this.2.2, fun n _ hn e1 => hn.2 (h.disj n b k hn.1 hy.1 e1 hkb), this.2.1⟩
            have hok : OkMv w g w' ((g.kill b g.ok).set d r) := fun k hk hlt => ⟨h3.block k hlt (fun e1 => (hrow k e1.symm).1 hk), hk⟩
            have hl := not_live hk hd
            have hs := hk.upd d (.row pin e' ty' (l ++ l')) r ((d, .row pin e' ty' (l ++ l')) :: (s.kill b .bad).heap) (g.val b).ownBlock (fun n => hget_cons d n _ _) h3 hrow (fun hl' => absurd hl' hl) (fun k hkr => by
              have hkr := (blkOf_own (own_slice h2)).1 hkr
              refine ⟨(h2.lt k hkr).2, ?_⟩
              rcases h4 with h4 | h4
              · exact .inl (h4 ▸ hkr)
              · rw [h4] at hkr; cases hkr; exact .inr (Nat.le_refl _)) (own_set h2 (h5 _ hok))
            refine .value (run _ _ r w' rfl rfl h1) (hN _ _ _ _ _ he hs ⟨.inr rfl, (if_pos rfl).symm⟩ ⟨hok, fun n _ hn hl => ?_, fun n k hn hln hkn => ⟨?_, ?_⟩⟩)
            · have hl : (g.live n ∧ n ≠ b) ∨ n = d := hl
              exact ⟨(hl.resolve_right hn).1, if_neg hn, fun _ => if_neg hn⟩
            · refine h3.block k (h.own n k hln hkn).1 fun e => hn ?_
              have : g.has b k := .inl ((blkOf_own (own_slice hown)).2 e.symm)
              rw [hyv, h.disj n b k hln hy.1 hkn this]; exact List.mem_singleton.2 rfl
            · refine .inr (.inl ⟨hln, fun e => hn ?_⟩)
              rw [hyv, e]; exact List.mem_singleton.2 rfl
          · cases he
        · cases he
      · cases he
    · cases he
  · cases he
theorem sameOp_ok {l c : Operand} (h : sameOp l c = true) {k : IntKind} {n : Int} (hc : a.eval c = .int k n) : ∃ k', a.eval l = .int k' n := by
  cases l with
  | tmp t =>
    cases c with
    | tmp t' => have := Nat.eq_of_beq_eq_true h; subst this; exact ⟨k, hc⟩
    | _ => simp [sameOp] at h
  | const v =>
    cases c with
    | const v' =>
      cases v with
      | int k1 m =>
        cases v' with
        | int k2 m' =>
          have : m = m' := of_decide_eq_true h
          subst this
          have hc : Value.int k2 m = .int k n := hc
          cases hc
          exact ⟨k1, rfl⟩
        | _ => simp [sameOp] at h
      | _ => simp [sameOp] at h
    | _ => simp [sameOp] at h
  | _ => simp [sameOp] at h
theorem range_get (z : List Value) : (List.range z.length).map (fun j => z.toArray[j]!) = z := by
  apply List.ext_getElem
  · simp
  · intro i h1 h2
    simp [h2]
theorem made_flat (z : Array Value) (hz : 0 < z.size) : ∀ n : Nat, (madeCells z (n * z.size)).toList = (List.replicate n z.toList).flatten
  | 0 => by simp [madeCells]
  | n + 1 => by
    have ih := made_flat z hz n
    rw [List.replicate_succ', List.flatten_append, ← ih]
    simp only [madeCells, Array.toList_map, Array.toList_range, List.flatten_cons, List.flatten_nil, List.append_nil]
    rw [Nat.succ_mul, List.range_add, List.map_append, List.map_map]
    congr 1
    have := range_get z.toList
    rw [Array.length_toList] at this
    rw [← this]
    apply List.map_congr_left
    intro j hj
    have hj := List.mem_range.1 hj
    simp only [Function.comp, Array.toArray_toList]
    rw [show n * z.size + j = j + z.size * n by rw [Nat.mul_comm]; omega, Nat.add_mul_mod_self_left, Nat.mod_eq_of_lt hj]
theorem all_nil {e : Nat} {t : Ty} {vs : List Value} {y : List t.T} (h : (Ty.slc e t).all (ofVals vs) = some y) : y = [] ∧ vs = [.slice none 0 0] := by
  unfold Ty.all at h
  split at h
  · rename_i y' ht
    cases h
    cases vs with
    | nil => simp [ofVals, Ty.take] at ht
    | cons v vs =>
      simp only [ofVals] at ht
      unfold ofVal at ht
      split at ht <;> simp only [Ty.take] at ht <;> first | (cases ht; done) | skip
      cases vs with
      | nil => cases ht; exact ⟨rfl, rfl⟩
      | cons _ _ =>
        simp only [ofVals, Option.some.injEq] at ht
        have := congrArg Prod.snd ht
        cases this
  · cases h
theorem DeepAt.nil {B : Nat} {w : World} {inn : List Nat → Option Value} : ∀ {t : Ty} {e : Nat} {p : List Nat}, t.leafOk = true → (∀ j r, inn (p ++ j :: r) = none) → DeepAt B w inn t e [] p (.slice none 0 0)
  | .slc _ _, _, _, _, hi => ⟨⟨[], World.ownsRow_nil _ _ _ _, fun i x hx => by simp at hx⟩, fun i q _ => hi i q⟩
  | .int _, _, _, hl, hi => ⟨hl, ⟨[], World.ownsRow_nil _ _ _ _, rfl⟩, hi⟩
  | .bool, _, _, hl, hi => ⟨hl, ⟨[], World.ownsRow_nil _ _ _ _, rfl⟩, hi⟩
  | .str, _, _, hl, hi => ⟨hl, ⟨[], World.ownsRow_nil _ _ _ _, rfl⟩, hi⟩
  | .pr _ _, _, _, hl, hi => ⟨hl, ⟨[], World.ownsRow_nil _ _ _ _, rfl⟩, hi⟩
def madeInn (m : Nat) : List Nat → Option Value
  | [i] => if i < m then some (.slice none 0 0) else none
  | _ => none
theorem madeInn_none {m : Nat} : ∀ {q : List Nat} {u : Value}, madeInn m q = some u → blkOf u = none
  | [i], u, h => by
    simp only [madeInn] at h
    split at h
    · cases h; rfl
    · cases h
  | [], _, h => by cases h
  | _ :: _ :: _, _, h => by cases h
theorem deep_made {B m e e' : Nat} {t' : Ty} {v : Value} (h : w.ownsRow B e 1 v m (List.replicate m (.slice none 0 0))) (hl : t'.leafOk = true) : DeepAt B w (madeInn m) (.slc e' t') e (List.replicate m ([] : List t'.T)) [] v ∧ DeepOk B v (madeInn m) := by
  have hlen : List.length (α := List t'.T) (List.replicate m ([] : List t'.T)) = m := List.length_replicate
  refine ⟨⟨⟨List.replicate m (.slice none 0 0), (congrArg (fun n => w.ownsRow B e 1 v n (List.replicate m (.slice none 0 0))) hlen).mpr h, fun i x hx => ?_⟩, fun i q hq => ?_⟩, ⟨rfl, fun q u k hq hk => ?_, fun q q' u u' k hq _ hk _ => ?_⟩⟩
  · have hx : (if i < m then some ([] : List t'.T) else none) = some x := (show (List.replicate m ([] : List t'.T))[i]? = _ from List.getElem?_replicate).symm.trans hx
    split at hx
    · rename_i him
      cases hx
      exact ⟨.slice none 0 0, by rw [List.getElem?_replicate, if_pos him], if_pos him, DeepAt.nil hl fun j r => rfl⟩
    · cases hx
  · have hq : m ≤ i := Nat.le_trans (Nat.le_of_eq hlen.symm) hq
    cases q with
    | nil => exact if_neg (by omega)
    | cons _ _ => rfl
  · rw [madeInn_none hq] at hk; cases hk
  · rw [madeInn_none hq] at hk; cases hk
theorem makeX_ok (h : Sim X s a w g) {d : Nat} {T : List Nat} {t : TypeId} {l c : Operand} (he : makeX P d s t l c K = some x) : OpOk P X a w g d T (.makeSlice t l c) K x := by
  intro N hN o ho
  unfold makeX at he
  have he' := elemX_some he
  clear he
  obtain ⟨e, i, ty, z, hu, hi, hz, hsz, hzs, he⟩ := he'
  have hc := h.opd c
  split at he
  · rename_i y k1 k n hall hcv
    rw [hcv] at hc
    have hc : a.eval c = .int k n := hc
    replace he := chk_some he
    obtain ⟨h0, he⟩ := he
    replace he := chk_some he
    obtain ⟨h1, he⟩ := he
    have h0 := of_decide_eq_true h0
    have h1 := of_decide_eq_true h1
    obtain ⟨m, rfl⟩ : ∃ m : Nat, n = m := ⟨n.toNat, by omega⟩
    obtain ⟨h2, h3⟩ := most_ok (i := i) (n := m) (by omega)
    split at he
    · rename_i hd
      obtain ⟨w', hr, h4, h5⟩ := run_make_own (P := P) (w := w) X.B t e i z ty.sz hu hi hz hsz k1 k m (by rw [Nat.mul_comm]; omega) h3 h.base
      have hok := okMv_set (g := g) (d := d) (v := .slice (some ⟨w.heap.size, 0, none⟩) 0 m) h5
      have hs := h.fresh hd (x := .row false e ty []) (v := .slice (some ⟨w.heap.size, 0, none⟩) 0 m) h5 (fun q hq => by cases hq; exact ⟨Nat.le_refl _, (h4.lt _ rfl).2⟩) (own_set h4 rfl)
      exact .value (by simp [execOp, ho, hc, show a.eval (Operand.const (Value.int k1 0)) = .int k1 0 from rfl, hr]) (hN _ _ _ _ _ he hs ⟨.inr rfl, (if_pos rfl).symm⟩ (Chg.set h h5))
    · cases he
  · rename_i y k n hall _ hcv
    rw [hcv] at hc
    have hc : a.eval c = .int k n := hc
    replace he := chk_some he
    obtain ⟨hso, he⟩ := he
    replace he := chk_some he
    obtain ⟨h0, he⟩ := he
    replace he := chk_some he
    obtain ⟨h1, he⟩ := he
    have h0 := of_decide_eq_true h0
    have h1 := of_decide_eq_true h1
    obtain ⟨m, rfl⟩ : ∃ m : Nat, n = m := ⟨n.toNat, by omega⟩
    obtain ⟨h2, h3⟩ := most_ok (i := i) (n := m) (by omega)
    obtain ⟨k', hl⟩ := sameOp_ok hso hc
    split at he
    · rename_i hd
      obtain ⟨w', hr, h4, h5⟩ := run_make_full (P := P) (w := w) X.B t e i z ty.sz hu hi hz hsz k' k m (by rw [Nat.mul_comm]; omega) h3 h.base
      have hok := okMv_set (g := g) (d := d) (v := .slice (some ⟨w.heap.size, 0, none⟩) m m) h5
      rw [Int.toNat_natCast] at he
      have hrep : Reps w g.ok ty (List.replicate m y) (madeCells z.cells (m * ty.sz)).toList := by
        rw [← hsz, ← hzs, made_flat z.cells (by rw [hzs, hsz]; exact ty.sz_pos)]
        exact Reps.rep (all_ok (RVs.ofVals z.cells.toList) hall) m
      have hout : ∀ (inn : List Nat → Option Value) (bl : Blk), (bl.flat = true → inn = fun _ => none) → (inn ≠ (fun _ => none) → ∀ q u, inn q = some u → blkOf u = none) → BlkRel X.B w' (g.set d (.slice (some ⟨w.heap.size, 0, none⟩) m m) inn) d bl → K ⟨s.env, (d, bl) :: s.heap⟩ (.own d) = some x → Gives P a w o N := fun inn bl hfl hno hbl he => by
        have hs := h.updI d bl (.slice (some ⟨w.heap.size, 0, none⟩) m m) inn ((d, bl) :: s.heap) none (fun n => hget_cons d n bl s.heap) h5 (fun k e => by cases e) (fun hl => absurd hl (not_live h hd)) (fun k hk => by
          rcases hk with hk | ⟨q, u, h6, h7⟩
          · change blkOf (if d = d then _ else _) = some k at hk
            rw [if_pos rfl] at hk
            cases hk
            exact ⟨(h4.lt _ rfl).2, .inr (.inl (Nat.le_refl _))⟩
          · change (if d = d then inn else g.inn d) q = some u at h6
            rw [if_pos rfl] at h6
            have := hno (fun e => by rw [e] at h6; cases h6) q u h6
            rw [this] at h7; cases h7) hbl (fun hf p => by rw [hfl hf])
        exact .value (by simp [execOp, ho, hc, hl, hr]) (hN _ _ _ _ _ he hs ⟨.inr rfl, (if_pos rfl).symm⟩ (Chg.set h h5))
      cases hdeep : (ty.isSlc && ty.leafOk) with
      | false =>
        rw [hdeep] at he
        exact hout _ _ (fun _ => rfl) (fun hn => absurd rfl hn) (own_set (by rw [List.length_replicate]; exact h4) (hrep.move hok)) he
      | true =>
        rw [hdeep] at he
        simp only [Bool.and_eq_true] at hdeep
        cases ty <;> first | (cases hdeep.1; done) | skip
        rename_i e' t' _
        obtain ⟨hy0, hz0⟩ := all_nil hall
        subst hy0
        have h1 : z.cells.size = 1 := hzs.trans hsz
        have hmade : (madeCells z.cells (m * 1)).toList = List.replicate m (.slice none 0 0) := by
          have := made_flat z.cells (by omega) m
          rw [h1, hz0] at this
          rw [this]; simp
        have h4' : w'.ownsRow X.B e 1 (.slice (some ⟨w.heap.size, 0, none⟩) m m) m (List.replicate m (.slice none 0 0)) := by rw [← hmade]; exact h4
        obtain ⟨q1, q2⟩ := deep_made (e' := e') (t' := t') h4' hdeep.2
        exact hout (madeInn m) (.deep e (.slc e' t') (List.replicate m ([] : List t'.T))) (fun hf => by cases hf) (fun _ q u hq => madeInn_none hq) (deep_blk q1 q2) (by simpa using he)
    · cases he
  · cases he
/-! ### Rows that are given away -/
theorem okMv_kill {b : Nat} {ok : Nat → Prop} (hok : ∀ k, g.ok k → ok k) : OkMv w g w (g.kill b ok) := fun k hk _ => ⟨rfl, hok k hk⟩
theorem Sim.freeze0 (h : Sim X s a w g) {b : Nat} {e : Nat} {t : Ty} {l : List t.T} (hl : g.live b) (hr : ∀ ok : Nat → Prop, (∀ k, g.ok k → ok k) → (∀ k, g.has b k → ok k) → RowAt (Rep w ok t) t.sz w ok l (g.val b)) (hB : ∀ k, g.has b k → X.B ≤ k) :
    ∃ g', Sim X (s.kill b (.row e t l)) a w g' ∧ (∀ {as : List AV} {vs : List Value}, RVs w g as vs → RVs w g' (AV.subs b (.row e t l) as) vs) ∧ RV w g' (.row e t l) (g.val b) ∧ Frz g g' := by
  let ok : Nat → Prop := fun k => g.ok k ∨ g.has b k
  have m : Mv w g (· = b) w (g.kill b ok) := ⟨fun k hk _ => ⟨rfl, .inl hk⟩, fun n hn hl => ⟨⟨hl, hn⟩, rfl, rfl⟩⟩
  have hrow : RV w (g.kill b ok) (.row e t l) (g.val b) := hr ok (fun k hk => .inl hk) (fun k hk => .inr hk)
  refine ⟨g.kill b ok, h.kill b ok (fun _ hk => .inl hk) _ (fun k hk => ?_) (fun _ => hrow), fun hr => hr.sub m (fun _ => hrow), hrow, fun _ hk => .inl hk, fun n hn => ⟨hn.1, rfl, rfl⟩, fun n k hln hk => ?_⟩
  · rcases hk with hk | hk
    · exact .inl hk
    · exact .inr ⟨hl, hk, hB k hk⟩
  · by_cases e : n = b
    · subst e; exact .inl (.inr hk)
    · exact .inr ⟨hln, e⟩
theorem flat_has (h : Sim X s a w g) {b k : Nat} {x : Blk} (hb : hget s.heap b = some x) (hf : x.flat = true) (hk : g.has b k) : blkOf (g.val b) = some k := by
  rcases hk with hk | ⟨p, u, h1, _⟩
  · exact hk
  · rw [h.flat b x hb hf p] at h1; cases h1
theorem Sim.freeze (h : Sim X s a w g) {b : Nat} {e : Nat} {t : Ty} {l : List t.T} (hb : hget s.heap b = some (.row false e t l)) :
    ∃ g', Sim X (s.kill b (.row e t l)) a w g' ∧ (∀ {as : List AV} {vs : List Value}, RVs w g as vs → RVs w g' (AV.subs b (.row e t l) as) vs) ∧ RV w g' (.row e t l) (g.val b) ∧ Frz g g' := by
  have hl : g.live b := (h.live b).2 (by rw [hb]; rfl)
  obtain ⟨inner, hown, hreps⟩ := h.blk b _ hb
  refine h.freeze0 hl (fun ok h1 h2 => ?_) (fun k hk => ?_)
  · rcases own_row h hb with ⟨h3, h4⟩ | ⟨k, c, h3, h4, h5⟩
    · have : l = [] := List.eq_nil_of_length_eq_zero h3
      subst this
      exact ⟨none, 0, h4, Nat.le_refl _, fun _ => rfl, .inl rfl⟩
    · refine ⟨some ⟨k, 0, none⟩, c, h3, h4, (fun e => by cases e), .inr ⟨_, rfl, h2 k (.inl (by rw [h3]; rfl)), fun j y hj => ?_⟩⟩
      obtain ⟨cc, q1, q2, q3⟩ := h5 j y hj
      exact ⟨cc, q1, q2.move (fun k hk _ => ⟨rfl, h1 k hk⟩), q3⟩
  · exact (hown.lt k ((blkOf_own (own_slice hown)).1 (flat_has h hb rfl hk))).1
theorem Sim.freezeD (h : Sim X s a w g) {b : Nat} {e : Nat} {t : Ty} {l : List t.T} (hb : hget s.heap b = some (.deep e t l)) :
    ∃ g', Sim X (s.thaw b (.row e t l) (innD t l)) a w g' ∧ (∀ {as : List AV} {vs : List Value}, RVs w g as vs → RVs w g' (AV.thaws b (.row e t l) (innD t l) as) vs) ∧ RV w g' (.row e t l) (g.val b) ∧ Frz g g' := by
  have hl : g.live b := (h.live b).2 (by rw [hb]; rfl)
  have hbr := h.blk b _ hb
  obtain ⟨hd, ho⟩ := hbr
  let ok : Nat → Prop := fun k => g.ok k ∨ g.has b k
  have m : Mv w g (· = b) w (g.kill b ok) := ⟨fun k hk _ => ⟨rfl, .inl hk⟩, fun n hn hl => ⟨⟨hl, hn⟩, rfl, rfl⟩⟩
  have hrow : RV w (g.kill b ok) (.row e t l) (g.val b) := deep_rowAt hd fun k hk => Or.inr (by
    rcases hk with hk | ⟨q, u, h3, h4⟩
    · exact .inl hk
    · exact .inr ⟨q, u, h3, h4⟩)
  have hF : g.live b → ∀ p v, g.inn b (nats p) = some v → RV w (g.kill b ok) (innD t l p) v := fun _ p v hv => innD_ok ⟨hd, ho⟩ (fun k hk => Or.inr hk) hv
  have hB : ∀ k, g.has b k → X.B ≤ k := fun k hk => by
    rcases hk with hk | ⟨q, u, h3, h4⟩
    · obtain ⟨inner, hown⟩ := hd.own
      exact (hown.lt k ((blkOf_own (own_slice hown)).1 hk)).1
    · exact (ho.far q u k h3 h4).1
  refine ⟨g.kill b ok, h.thaw b ok (fun _ hk => .inl hk) _ _ (fun k hk => ?_) (fun _ => hrow) hF, fun hr => hr.thaw m (fun _ => hrow) hF, hrow, fun _ hk => .inl hk, fun n hn => ⟨hn.1, rfl, rfl⟩, fun n k hln hk => ?_⟩
  · rcases hk with hk | hk
    · exact .inl hk
    · exact .inr ⟨hl, hk, hB k hk⟩
  · by_cases e : n = b
    · subst e; exact .inl (.inr hk)
    · exact .inr ⟨hln, e⟩
theorem frzAll_ok : ∀ {n : Nat} {s : St} {g : Gh} {as done : List AV} {vs us : List Value} {s' : St} {out : List AV}, Sim X s a w g → RVs w g as vs → RVs w g done us → frzAll n s as done = some (s', out) →
    ∃ g', Sim X s' a w g' ∧ RVs w g' out (us ++ vs) ∧ Frz g g'
  | n, s, g, [], done, vs, us, s', out, h, hr, hd, he => by
    cases vs with
    | cons _ _ => exact hr.elim
    | nil =>
      have : frzAll n s [] done = some (s, done) := by cases n <;> rfl
      rw [this] at he
      cases he
      exact ⟨g, h, by rw [List.append_nil]; exact hd, Frz.refl _⟩
  | 0, s, g, _ :: _, done, vs, us, s', out, h, hr, hd, he => by simp [frzAll] at he
  | n + 1, s, g, v :: as, done, vs, us, s', out, h, hr, hd, he => by
    cases vs with
    | nil => exact hr.elim
    | cons u vs =>
      have other : frzAll n s as (done ++ [v]) = some (s', out) → ∃ g', Sim X s' a w g' ∧ RVs w g' out (us ++ u :: vs) ∧ Frz g g' := fun he => by
        obtain ⟨g', h1, h2, h3⟩ := frzAll_ok h hr.2 (hd.app (bs := [v]) (us := [u]) ⟨hr.1, trivial⟩) he
        exact ⟨g', h1, by rw [List.append_assoc] at h2; exact h2, h3⟩
      cases v with
      | own b =>
        simp only [frzAll] at he
        split at he
        · rename_i e t l hb
          obtain ⟨g1, h1, h2, h3, h4⟩ := h.freeze hb
          have hu : u = g.val b := hr.1.2
          obtain ⟨g', h5, h6, h7⟩ := frzAll_ok h1 (h2 hr.2) ((h2 hd).app (bs := [.row e t l]) (us := [u]) ⟨by rw [hu]; exact h3, trivial⟩) he
          exact ⟨g', h5, by rw [List.append_assoc] at h6; exact h6, h4.trans h7⟩
        · rename_i e t l hb
          obtain ⟨g1, h1, h2, h3, h4⟩ := h.freezeD hb
          have hu : u = g.val b := hr.1.2
          obtain ⟨g', h5, h6, h7⟩ := frzAll_ok h1 (h2 hr.2) ((h2 hd).app (bs := [.row e t l]) (us := [u]) ⟨by rw [hu]; exact h3, trivial⟩) he
          exact ⟨g', h5, by rw [List.append_assoc] at h6; exact h6, h4.trans h7⟩
        · cases he
      | _ => exact other he
theorem repl_rv {zs : List AV} {vs : List Value} (h : RVs w g zs vs) : ∀ n : Nat, RVs w g (repl zs n) ((List.replicate n vs).flatten)
  | 0 => trivial
  | n + 1 => by rw [List.replicate_succ, List.flatten_cons]; exact h.app (repl_rv h n)
theorem places_nth (size : Nat) : ∀ (n i j : Nat) (p : Nat × Nat), nth (places size i n) j = some p → p = ((i + j) * size, size)
  | 0, _, _, _, h => by simp [places, YthgmnlfbgajchaaV.nth] at h
  | n + 1, i, 0, p, h => by simp only [places, YthgmnlfbgajchaaV.nth, Option.some.injEq] at h; rw [← h, Nat.add_zero]
  | n + 1, i, j + 1, p, h => by
    simp only [places, YthgmnlfbgajchaaV.nth] at h
    rw [places_nth size n (i + 1) j p h, show i + 1 + j = i + (j + 1) by omega]
theorem run_lit {t e : TypeId} {i : TypeInfo} {z : Value} (hu : P.underlying t = some (.slice e)) (hi : P.info? e = some i) (hz : i.zero = some z) {n : Nat} {parts : Array (Nat × Value)} (h0 : n * i.size ≤ 16777216) {r : Array Value}
    (hf : Instr.fill (fun i' => some (i' * i.size, i.size)) (madeCells z.cells (n * i.size)) parts.toList = some r) : (Instr.buildSlice t n parts).run P w = .ok (.slice (some ⟨w.heap.size, 0, none⟩) n n) (w.alloc (.cells r e)) := by
  have h0' : ¬ n * i.size > 2 ^ 24 := by omega
  unfold Instr.buildSlice
  simp only [Sem.run_bind, run_underlying hu, Result.andThen_ok, info_size hi, if_neg h0']
  by_cases hn0 : n * i.size = 0
  · have he : ∀ z0 : Array Value, (Array.range (n * i.size)).map (fun x => z0[x % z0.size]!) = madeCells z.cells (n * i.size) := fun z0 => by
      apply Array.ext
      · simp [madeCells]
      · intro q h1 _
        rw [hn0] at h1; simp at h1
    simp only [if_pos hn0]
    rw [show ∀ k : Array Value → Sem Value, (Pure.pure #[] >>= k) = k #[] from fun _ => rfl, he, hf]
    rfl
  · simp only [if_neg hn0, Sem.run_bind, zeroValue, typeInfo, run_program, Result.andThen_ok, hi, hz, Sem.run_pure]
    rw [show (Array.range (n * i.size)).map (fun x => z.cells[x % z.cells.size]!) = madeCells z.cells (n * i.size) from rfl, hf]
    rfl
theorem litX_ok (h : Sim X s a w g) {d : Nat} {T : List Nat} {t : TypeId} {n : Nat} {parts : Array (Nat × Operand)} (he : litX P d s t n parts.toList K = some x) : OpOk P X a w g d T (.buildSlice t n parts) K x := by
  intro N hN o ho
  unfold litX at he
  replace he := elemX_some he
  obtain ⟨e, i, ty, z, hu, hi, hz, hsz, hzs, he⟩ := he
  replace he := chk_some he
  obtain ⟨h0, he⟩ := he
  have h0 := Nat.le_of_ble_eq_true h0
  split at he
  · rename_i cs hfill
    split at he
    · rename_i s1 cs1 hfrz
      split at he
      · rename_i l hall
        split at he
        · rename_i hd
          have hzr := repl_rv (RVs.ofVals (w := w) (g := g) z.cells.toList) n
          have hmade : (madeCells z.cells (n * i.size)).toList = (List.replicate n z.cells.toList).flatten := by
            rw [← hzs]; exact made_flat z.cells (by rw [hzs, hsz]; exact ty.sz_pos) n
          obtain ⟨r, e1, e2⟩ := fillX_ok h (places i.size 0 n) (fun i' => some (i' * i.size, i.size)) (fun j p hp => by rw [places_nth i.size n 0 j p hp, Nat.zero_add]) parts.toList _ (madeCells z.cells (n * i.size)) cs (by rw [hmade]; exact hzr) hfill
          obtain ⟨g1, h1, h2, h3⟩ := frzAll_ok h e2 (done := []) (us := []) trivial hfrz
          rw [List.nil_append] at h2
          obtain ⟨h4, h5⟩ := alls_ok h2 hall
          have hrs : r.size = n * ty.sz := by rw [← Array.length_toList, h4.len, h5]
          have hn : n ≤ maxLen := by
            have := ty.sz_pos
            have : n * 1 ≤ n * i.size := Nat.mul_le_mul_left _ (by omega)
            simp only [maxLen]; omega
          have hown := World.ownsRow_lit (base := X.B) (e := e) (size := ty.sz) w r n h1.base hn hrs
          have hg := World.grownBy_alloc w (.cells r e) none
          have hok := okMv_set (g := g1) (d := d) (v := .slice (some ⟨w.heap.size, 0, none⟩) n n) hg
          have hs := h1.fresh hd (x := .row false e ty l) (v := .slice (some ⟨w.heap.size, 0, none⟩) n n) hg (fun q hq => by cases hq; exact ⟨Nat.le_refl _, (hown.lt _ rfl).2⟩)
            (own_set (by rw [h5]; exact hown) (h4.move hok))
          refine .value (v := .slice (some ⟨w.heap.size, 0, none⟩) n n) (w' := w.alloc (.cells r e)) ?_ (hN _ _ _ _ _ he hs ⟨.inr rfl, (if_pos rfl).symm⟩ (Chg.frz h h3 (Chg.set h1 hg)))
          have hr := run_lit (P := P) (w := w) hu hi hz (parts := parts.map fun (i, x) => (i, a.eval x)) h0 (by rw [Array.toList_map]; exact e1)
          simp [execOp, ho, hr]
        · cases he
      · cases he
    · cases he
  · cases he
/-! ### Stores -/
theorem store_run {g0 : Nat} {o : Nat} {t e : TypeId} {i : TypeInfo} {cur : Array Value} {v : Value} (hi : P.info? t = some i) (hg : w.heap[g0]? = some (.cells cur e (0, 0))) (hv : v.cells.size = i.size) (hl : o + i.size ≤ cur.size) (h1 : ∀ u ∈ v.cells.toList, u.oneCell' = true) :
    (storeVar t ((⟨g0, 0, none⟩ : Addr).add o) v).run P w = .ok () (w.setRow g0 (cur.toList.take o ++ v.cells.toList ++ cur.toList.drop (o + i.size)).toArray) := by
  have := run_storeCells_at (P := P) g0 o e v.cells.toList 0 cur w hg (by rw [Array.length_toList]; omega) h1
  rw [Nat.add_zero, Array.length_toList, hv] at this
  rw [ad_plain, Nat.zero_add]
  simp only [storeVar, Sem.run_bind, info_size hi, Result.andThen_ok, hv, ne_eq, not_true_eq_false, if_false]
  exact this
theorem hget_set (b n : Nat) (x : Blk) (heap : List (Nat × Blk)) : hget ((b, x) :: hdel heap b) n = if n = b then some x else hget heap n := by
  rw [hget_cons]
  by_cases e : n = b
  · rw [if_pos e, if_pos e]
  · rw [if_neg e, if_neg e, hget_hdel, if_neg e]
theorem grown_setRow {g0 : Nat} {cs : Array Value} : w.grownBy (w.setRow g0 cs) (some g0) := ⟨rfl, rfl, rfl, by simp, fun k _ hk => setRow_other w g0 k _ (fun e => hk (by rw [e]))⟩
theorem take_mid (A cc R : List Value) {p q : Nat} (hA : A.length = p) (hq : q ≤ cc.length) : (A ++ (cc ++ R)).take (p + q) = A ++ cc.take q := by
  subst hA; rw [List.take_length_add_append, List.take_append_of_le_length hq]
theorem drop_mid (A cc R : List Value) {p q : Nat} (hA : A.length = p) (hq : q ≤ cc.length) : (A ++ (cc ++ R)).drop (p + q) = cc.drop q ++ R := by
  subst hA; rw [List.drop_length_add_append, List.drop_append_of_le_length hq]
theorem store_leaf (h : Sim X s a w g) {b : Nat} (hl : g.live b) {e : Nat} {t0 : Ty} {l : List t0.T} (hb : hget s.heap b = some (.deep e t0 l)) (hd : BlkRel X.B w g b (.deep e t0 l)) {q : List Int} {i' : Int} {t' : Ty} {y0 : t'.T} (hr : rdD t0 l (q ++ [i']) = some ⟨t', y0⟩) {k n c : Nat} (q2 : g.at b (nats q) = some (.slice (some ⟨k, 0, none⟩) n c)) (q3 : 0 ≤ i') (q4 : i' < n)
    (h31 : t'.flat = true) {z : Operand} (hcells : RVs w g (opd s z).cells (a.eval z).cells.toList) (hone : ∀ u ∈ (a.eval z).cells.toList, u.oneCell' = true) {i : TypeInfo} (hvs : (a.eval z).cells.size = i.size) {of : Nat} (h32 : of + i.size ≤ t'.sz) {y1 : t'.T} (hall : t'.all ((t'.cells y0).take of ++ (opd s z).cells ++ (t'.cells y0).drop (of + i.size)) = some y1) {l2 : List t0.T} (hup : upD t0 l (q ++ [i']) t' y1 = some l2)
    {o : Oper} {t : TypeId} {y : Operand} (ho : o.op = .store t y z) (hi : P.info? t = some i) (q5 : a.eval y = .pointer (some ((⟨k, 0, none⟩ : Addr).add (i'.toNat * t'.sz + of)))) {N : Value → World → Prop} {d : Nat} {T : List Nat} (hT : b ∈ T) (hN : ∀ w' g', Sim X ⟨s.env, (b, .deep e t0 l2) :: hdel s.heap b⟩ a w' g' → Chg d T w g w' g' → N undef w') : Gives P a w o N := by
  obtain ⟨e', l', hd', hlen, hget, hk⟩ := deep_elem hd hr q2 q3 q4
  have hns : t'.isSlc = false := by cases t' <;> first | rfl | cases h31
  have hjl : i'.toNat < n := by omega
  -- the row's cells
  have put := fun (l'' : List t'.T) (inner : List Value) (e'' : Nat) (hown : w.ownsRow X.B e'' t'.sz (.slice (some ⟨k, 0, none⟩) n c) l''.length inner) => by
    have hln : l''.length = n := by
      rcases hown.2 with ⟨hx, _⟩ | ⟨k', c', cur, hx, _⟩ <;> cases hx
      rfl
    rw [hln] at hown
    exact ownsRow_put (j := i'.toNat) (of := of) (vs := (a.eval z).cells.toList) hown hjl (by rw [Array.length_toList, hvs]; exact h32)
  obtain ⟨_, ⟨inner, hown, hreps⟩, _⟩ := hd'.leaf hns
  obtain ⟨cur, e0, hkc, hsize, he0, _⟩ := put l' inner e' hown
  rw [Array.length_toList, hvs] at hsize
  have hrun := store_run (P := P) (w := w) (o := i'.toNat * t'.sz + of) hi hkc hvs hsize hone
  rw [Array.length_toList, hvs] at he0
  rw [← he0] at hrun
  have hrow : ∀ k', some k = some k' → ¬ g.ok k' ∧ (∀ n, n ≠ b → g.live n → ¬ g.has n k') ∧ (k' < X.B → X.M k') := fun k' e' => by
    cases e'
    have := h.own b k hl hk
    exact ⟨this.2.2, fun n hn hn2 e1 => hn (h.disj n b k hn2 hl e1 hk), this.2.1⟩
  have hval : (g.set b (g.val b) (g.inn b)).val b = g.val b := if_pos rfl
  have hinn : (g.set b (g.val b) (g.inn b)).inn b = g.inn b := if_pos rfl
  have hx : BlkRel X.B (w.setRow k e0) (g.set b (g.val b) (g.inn b)) b (.deep e t0 l2) := by
    refine deep_blk (deep_upd (w := w) (inn := g.inn b) (k := k) (S := .slice (some ⟨k, 0, none⟩) n c) rfl (fun k' hk' => setRow_other w k k' _ hk') hd.1 hup hr ?_ (fun e'' l'' hd2 hg2 => ?_) ?_ ?_ (fun _ _ => rfl)) hd.2
    · cases q with
      | nil => simpa [Gh.at, nats] using q2
      | cons j r => exact q2
    · obtain ⟨_, ⟨inner2, hown2, hreps2⟩, hnone⟩ := hd2.leaf hns
      obtain ⟨cur2, e2, hk2, _, he2, hown3⟩ := put l'' inner2 e'' hown2
      rw [hkc] at hk2
      cases hk2
      rw [Array.length_toList, hvs, ← he0] at he2
      subst he2
      have hln : l''.length = n := by
        rcases hown2.2 with ⟨hx, _⟩ | ⟨k', c', cur, hx, _⟩ <;> cases hx
        rfl
      have hget2 : l''[i'.toNat]? = some y0 := by rw [← hg2, getD_lt (by omega)]; exact List.getElem?_eq_getElem (by omega)
      have hrep : Rep w g.ok t' y0 ((inner2.drop (i'.toNat * t'.sz)).take t'.sz) := (hreps2.get hget2).none h31
      have hnew := all_ok ((hrep.rvs.take (n := of) |>.app hcells).app (hrep.rvs.drop (n := of + i.size))) hall
      have hreps3 := Reps.set (hnew.none h31) hreps2 (show i'.toNat < l''.length by omega)
      rw [List.take_take, Nat.min_eq_left (by omega)] at hreps3
      rw [Array.length_toList, hvs] at hown3
      rw [show [] ++ nats q = nats q from rfl] at hnone ⊢
      exact DeepAt.mk_leaf h31 (by rw [List.length_set, hln]; exact hown3) (hreps3.none h31) hnone
    · intro hq
      cases q with
      | nil => exact absurd rfl hq
      | cons j r => exact (hd.2.far _ _ k q2 rfl).2
    · intro r u hr1 hr2
      rw [List.nil_append] at hr1
      cases q with
      | nil =>
        simp only [Gh.at, nats, List.map_nil, Option.some.injEq] at q2
        exact absurd (by rw [q2]; rfl) (hd.2.far r u k hr1 hr2).2
      | cons j r' => exact hd.2.one r _ u _ k hr1 q2 hr2 rfl
  have hs := h.updI b (.deep e t0 l2) (g.val b) (g.inn b) _ (some k) (fun n => hget_set b n _ s.heap) grown_setRow hrow (fun _ => ⟨rfl, rfl⟩) (fun k' hk' => by
    have hk' : g.has b k' := by simpa only [Gh.has, hval, hinn] using hk'
    exact ⟨by have := (h.own b k' hl hk').1; simpa using this, .inr (.inr ⟨hl, hk'⟩)⟩) hx (fun hf => by cases hf)
  refine .skip (w' := w.setRow k e0) ?_ (hN _ _ hs (Chg.row h hl hT hk grown_setRow))
  simp only [execOp, ho, Instr.storeAt, q5, Instr.sureAddr, Sem.run_bind, Sem.run_pure, Result.andThen_ok]
  rw [show (Sem.run P (storeVar t ((⟨k, 0, none⟩ : Addr).add (i'.toNat * t'.sz + of)) (a.eval z)) w) = _ from hrun]
  rfl
theorem store_row (h : Sim X s a w g) {b : Nat} (hl : g.live b) {e : Nat} {t0 : Ty} {l : List t0.T} (hb : hget s.heap b = some (.deep e t0 l)) (hd : BlkRel X.B w g b (.deep e t0 l)) {q : List Int} {i' : Int} {e2 : Nat} {t2 : Ty} {y0 : List t2.T} (hr : rdD t0 l (q ++ [i']) = some ⟨.slc e2 t2, y0⟩) {k n c : Nat} (q2 : g.at b (nats q) = some (.slice (some ⟨k, 0, none⟩) n c)) (q3 : 0 ≤ i') (q4 : i' < n)
    {b2 : Nat} (hne : b2 ≠ b) {z : Operand} (hz : RV w g (.own b2) (a.eval z)) {y2 : List t2.T} (hrow2 : rowD s e2 t2 b2 = some y2) {l2 : List t0.T} (hup : upD t0 l (q ++ [i']) (.slc e2 t2) y2 = some l2)
    {o : Oper} {t : TypeId} {y : Operand} {i : TypeInfo} (ho : o.op = .store t y z) (hi : P.info? t = some i) (hi1 : i.size = 1) (q5 : a.eval y = .pointer (some ((⟨k, 0, none⟩ : Addr).add (i'.toNat * 1 + 0)))) {N : Value → World → Prop} {d : Nat} {T : List Nat} (hT : b ∈ T) (hT2 : b2 ∈ T)
    (hN : ∀ w' g', Sim X ⟨invEnv b (subEnv b2 .bad s.env), (b, .deep e t0 l2) :: hdel (invHeap b (subHeap b2 .bad s.heap)) b⟩ a w' g' → Chg d T w g w' g' → N undef w') : Gives P a w o N := by
  obtain ⟨e', l', hd', hlen, _, hk⟩ := deep_elem hd hr q2 q3 q4
  have hjl : i'.toNat < n := by omega
  obtain ⟨hl2, hd2, ho2⟩ := rowD_ok h hrow2
  have hv2 : a.eval z = g.val b2 := hz.2
  have hone : (g.val b2).oneCell' = true := val_one h hl2
  have hcz : (a.eval z).cells.toList = [g.val b2] := by rw [hv2]; exact cells_of_one hone
  have put := fun (l'' : List (List t2.T)) (inner : List Value) (e'' : Nat) (hown : w.ownsRow X.B e'' 1 (.slice (some ⟨k, 0, none⟩) n c) l''.length inner) => by
    have hln : l''.length = n := by
      rcases hown.2 with ⟨hx, _⟩ | ⟨k', c', cur, hx, _⟩ <;> cases hx
      rfl
    rw [hln] at hown
    exact ownsRow_put (j := i'.toNat) (of := 0) (vs := [g.val b2]) hown hjl (by simp)
  obtain ⟨⟨inner, hown, _⟩, _⟩ := hd'
  obtain ⟨cur, e0, hkc, hsize, he0, _⟩ := put l' inner e' hown
  have hvs : (a.eval z).cells.size = i.size := by rw [← Array.length_toList, hcz, hi1]; rfl
  have hrun := store_run (P := P) (w := w) (o := i'.toNat * 1 + 0) hi hkc hvs (by rw [hi1]; exact hsize) (fun u hu => by rw [hcz] at hu; rw [List.mem_singleton.1 hu]; exact hone)
  rw [hcz, hi1] at hrun
  rw [show [g.val b2].length = 1 from rfl] at he0
  rw [← he0] at hrun
  -- the name of the row that is given dies
  have h1 := h.kill b2 g.ok (fun _ hk => hk) .bad (fun k hk => .inl hk) (fun _ => trivial)
  have hl1 : (g.kill b2 g.ok).live b := ⟨hl, fun e => hne e.symm⟩
  let P0 : List Nat := nats q ++ [i'.toNat]
  let inn' : List Nat → Option Value := fun r => if P0 <+: r then (if r.drop P0.length = [] then some (g.val b2) else g.inn b2 (r.drop P0.length)) else g.inn b r
  have in1 : ∀ r, inn' (P0 ++ r) = if r = [] then some (g.val b2) else g.inn b2 r := fun r => by
    show (if P0 <+: P0 ++ r then _ else _) = _
    rw [if_pos (List.prefix_append _ _), List.drop_left]
  have in2 : ∀ r, ¬ P0 <+: r → inn' r = g.inn b r := fun r hr => if_neg hr
  -- what stands at a place now
  have split : ∀ r u, inn' r = some u → (∃ r', r = P0 ++ r' ∧ ((r' = [] ∧ u = g.val b2) ∨ g.inn b2 r' = some u)) ∨ (¬ P0 <+: r ∧ g.inn b r = some u) := fun r u hu => by
    by_cases hp : P0 <+: r
    · obtain ⟨r', rfl⟩ := hp
      rw [in1] at hu
      split at hu
      · rename_i e; cases hu; exact .inl ⟨r', rfl, .inl ⟨e, rfl⟩⟩
      · exact .inl ⟨r', rfl, .inr hu⟩
    · exact .inr ⟨hp, by rw [in2 r hp] at hu; exact hu⟩
  have has2 : ∀ r' u k', ((r' = [] ∧ u = g.val b2) ∨ g.inn b2 r' = some u) → blkOf u = some k' → g.has b2 k' := fun r' u k' hu hk' => by
    rcases hu with ⟨_, rfl⟩ | hu
    · exact .inl hk'
    · exact .inr ⟨r', u, hu, hk'⟩
  have hB2 : ∀ k', g.has b2 k' → X.B ≤ k' := fun k' hk' => by
    rcases hk' with hk' | ⟨r, u, h3, h4⟩
    · obtain ⟨inner, hown⟩ := hd2.own
      exact (hown.lt k' ((blkOf_own (own_slice hown)).1 hk')).1
    · exact (ho2.far r u k' h3 h4).1
  have ne2 : ∀ k', g.has b k' → ¬ g.has b2 k' := fun k' h3 h4 => hne (h.disj b2 b k' hl2 hl h4 h3)
  have hrow : ∀ k', some k = some k' → ¬ (g.kill b2 g.ok).ok k' ∧ (∀ n, n ≠ b → (g.kill b2 g.ok).live n → ¬ (g.kill b2 g.ok).has n k') ∧ (k' < X.B → X.M k') := fun k' e' => by
    cases e'
    have := h.own b k hl hk
    exact ⟨this.2.2, fun n hn hn2 e1 => hn (h.disj n b k hn2.1 hl e1 hk), this.2.1⟩
  have hw : ∀ k', k' ≠ k → (w.setRow k e0).heap[k']? = w.heap[k']? := fun k' hk' => setRow_other w k k' _ hk'
  have m : MvI w (g.kill b2 g.ok) b (w.setRow k e0) ((g.kill b2 g.ok).set b (g.val b) inn') := ⟨fun k' hk' _ => ⟨hw k' fun e => (hrow k rfl).1 (by rw [← e]; exact hk'), hk'⟩, fun n hn => ⟨.inl hn, by
    show (if n = b then g.val b else g.val n) = g.val n
    split
    · rename_i e; rw [e]
    · rfl, fun hn => if_neg hn⟩⟩
  have hDeep : DeepAt X.B (w.setRow k e0) inn' t0 e l2 [] (g.val b) := by
    refine deep_upd (w := w) (inn := g.inn b) (k := k) (S := .slice (some ⟨k, 0, none⟩) n c) rfl hw hd.1 hup hr ?_ (fun e'' l'' hd3 hg3 => ?_) ?_ ?_ (fun r hr => in2 r hr)
    · cases q with
      | nil => simpa [Gh.at, nats] using q2
      | cons j r => exact q2
    · obtain ⟨⟨inner2, hown2, hin2⟩, hno2⟩ := hd3
      rw [show [] ++ nats q = nats q from rfl] at hin2 hno2 ⊢
      obtain ⟨cur2, e2', hk2, _, he2, hown3⟩ := put l'' inner2 e'' hown2
      rw [hkc] at hk2
      have hcc : cur = cur2 := by injection hk2 with hk2; injection hk2
      rw [← hcc] at he2
      rw [show [g.val b2].length = 1 from rfl, ← he0] at he2
      rw [he2] at hown3
      have hln : List.length (α := List t2.T) l'' = n := by
        rcases hown2.2 with ⟨hx, _⟩ | ⟨k', c', cur, hx, _⟩ <;> cases hx
        rfl
      have hil : inner2.length = n := by rw [hown2.1]; exact (Nat.mul_one _).trans hln
      have hlen3 : List.length (α := List t2.T) (List.set (α := List t2.T) l'' i'.toNat y2) = n := List.length_set.trans hln
      rw [Nat.mul_one] at hown3
      have hcell : ∀ i2, (inner2.take i'.toNat ++ ((inner2.drop i'.toNat).take 0 ++ [g.val b2] ++ ((inner2.drop i'.toNat).take 1).drop (0 + [g.val b2].length)) ++ inner2.drop (i'.toNat + 1))[i2]? = if i2 = i'.toNat then some (g.val b2) else inner2[i2]? := fun i2 => by
        have e5 : ((inner2.drop i'.toNat).take 1).drop (0 + [g.val b2].length) = [] := List.drop_eq_nil_of_le (by simp; omega)
        rw [e5, List.take_zero, List.nil_append, List.append_nil]
        have e6 : inner2.take i'.toNat ++ [g.val b2] ++ inner2.drop (i'.toNat + 1) = inner2.set i'.toNat (g.val b2) := by
          rw [List.set_eq_take_append_cons_drop, if_pos (by omega)]; simp
        rw [e6]
        by_cases e7 : i2 = i'.toNat
        · subst e7; rw [if_pos rfl, List.getElem?_set_self (by omega)]
        · rw [if_neg e7, List.getElem?_set_ne (Ne.symm e7)]
      refine ⟨⟨_, (congrArg (fun n' => (w.setRow k e0).ownsRow X.B e'' 1 (Value.slice (some ⟨k, 0, none⟩) n c) n' _) hlen3).mpr hown3, fun i2 x hx => ?_⟩, fun i2 r hr2 => ?_⟩
      · by_cases e7 : i2 = i'.toNat
        · subst e7
          have hx : some y2 = some x := (@List.getElem?_set_self (List t2.T) l'' i'.toNat y2 (by rw [hln]; exact hjl)).symm.trans hx
          cases hx
          refine ⟨g.val b2, by rw [hcell, if_pos rfl], by rw [show nats q ++ [i'.toNat] = P0 ++ [] by simp [P0], in1, if_pos rfl], ?_⟩
          have hmv : DeepAt X.B (w.setRow k e0) (g.inn b2) t2 e2 y2 [] (g.val b2) := hd2.move fun k' hk' => hw k' fun e8 => ne2 k hk (by
            subst e8
            rcases hk' with hk' | ⟨r, u, h3, h4⟩
            · exact .inl hk'
            · exact .inr ⟨r, u, h3, h4⟩)
          have := hmv.rebase (R := P0) (inn' := inn') (fun j r => by rw [in1, if_neg (by simp)])
          rw [List.append_nil] at this
          exact this
        · have hx : (@getElem? (List (List t2.T)) Nat (List t2.T) _ _ l'' i2) = some x := (@List.getElem?_set_ne (List t2.T) l'' i'.toNat i2 (Ne.symm e7) y2).symm.trans hx
          obtain ⟨u, h3, h4, h5⟩ := hin2 i2 x hx
          have apart : ∀ r, ¬ P0 <+: nats q ++ i2 :: r := fun r hpre => by
            rw [List.prefix_append_right_inj, List.cons_prefix_cons] at hpre
            exact e7 hpre.1.symm
          have far : ∀ r u', g.inn b (nats q ++ i2 :: r) = some u' → blkOf u' ≠ some k := fun r u' h6 h7 => by
            cases q with
            | nil =>
              simp only [Gh.at, nats, List.map_nil, Option.some.injEq] at q2
              exact absurd (by rw [q2]; rfl) (hd.2.far _ u' k h6 h7).2
            | cons j r' =>
              have := hd.2.one _ _ u' _ k h6 q2 h7 rfl
              simp at this
          refine ⟨u, by rw [hcell, if_neg e7]; exact h3, by rw [in2 _ (apart [])]; exact h4, h5.same (fun i3 r => ?_) fun k' hk' => hw k' fun e8 => ?_⟩
          · rw [List.append_assoc]; exact in2 _ (apart (i3 :: r))
          · subst e8
            rcases hk' with hk' | ⟨r, u', h6, h7⟩
            · exact far [] u h4 hk'
            · rw [List.append_assoc] at h6
              exact far r u' h6 h7
      · have hr3 : n ≤ i2 := Nat.le_trans (Nat.le_of_eq hlen3.symm) hr2
        rw [in2 _ fun hpre => ?_]
        · exact hno2 i2 r (Nat.le_trans (Nat.le_of_eq hln) hr3)
        · rw [List.prefix_append_right_inj, List.cons_prefix_cons] at hpre
          omega
    · intro hq
      cases q with
      | nil => exact absurd rfl hq
      | cons j r => exact (hd.2.far _ _ k q2 rfl).2
    · intro r u hr1 hr2
      rw [List.nil_append] at hr1
      cases q with
      | nil =>
        simp only [Gh.at, nats, List.map_nil, Option.some.injEq] at q2
        exact absurd (by rw [q2]; rfl) (hd.2.far r u k hr1 hr2).2
      | cons j r' => exact hd.2.one r _ u _ k hr1 q2 hr2 rfl
  have hOk : DeepOk X.B (g.val b) inn' := by
    refine ⟨?_, fun r u k' hu hk' => ?_, fun r r2 u u2 k' hu hu2 hk' hk2 => ?_⟩
    · rw [in2 [] fun hpre => ?_]
      · exact hd.2.root
      · have := hpre.length_le
        simp [P0] at this
    · rcases split r u hu with ⟨r', rfl, h3⟩ | ⟨_, h3⟩
      · have h4 := has2 r' u k' h3 hk'
        exact ⟨hB2 k' h4, fun h5 => ne2 k' (.inl h5) h4⟩
      · exact hd.2.far r u k' h3 hk'
    · rcases split r u hu with ⟨r', rfl, h3⟩ | ⟨_, h3⟩
      · rcases split r2 u2 hu2 with ⟨r2', rfl, h4⟩ | ⟨_, h4⟩
        · congr 1
          rcases h3 with ⟨rfl, rfl⟩ | h3
          · rcases h4 with ⟨rfl, rfl⟩ | h4
            · rfl
            · exact absurd hk' (ho2.far _ _ _ h4 hk2).2
          · rcases h4 with ⟨rfl, rfl⟩ | h4
            · exact absurd hk2 (ho2.far _ _ _ h3 hk').2
            · exact ho2.one _ _ _ _ _ h3 h4 hk' hk2
        · exact absurd (has2 r' u k' h3 hk') (ne2 k' (.inr ⟨_, _, h4, hk2⟩))
      · rcases split r2 u2 hu2 with ⟨r2', rfl, h4⟩ | ⟨_, h4⟩
        · exact absurd (has2 r2' u2 k' h4 hk2) (ne2 k' (.inr ⟨_, _, h3, hk'⟩))
        · exact hd.2.one _ _ _ _ _ h3 h4 hk' hk2
  have hval : ((g.kill b2 g.ok).set b (g.val b) inn').val b = g.val b := if_pos rfl
  have hinn : ((g.kill b2 g.ok).set b (g.val b) inn').inn b = inn' := if_pos rfl
  have hs := h1.upd0 b (.deep e t0 l2) (g.val b) inn' (invEnv b (subEnv b2 .bad s.env)) ((b, .deep e t0 l2) :: hdel (invHeap b (subHeap b2 .bad s.heap)) b) (some k)
    (fun t => by rw [get_invEnv]; exact (h1.env t).inv m)
    (fun n hn => by
      rw [hget_set, if_neg hn, hget_invHeap]
      show Option.map _ (hget (subHeap b2 .bad s.heap) n) = none ↔ hget (subHeap b2 .bad s.heap) n = none
      cases hget (subHeap b2 .bad s.heap) n <;> simp)
    (by rw [hget_set, if_pos rfl])
    (fun n x hn hx => by
      rw [hget_set, if_neg hn, hget_invHeap] at hx
      cases hx0 : hget (subHeap b2 .bad s.heap) n with
      | none => rw [hx0] at hx; cases hx
      | some x0 =>
        rw [hx0] at hx
        simp only [Option.map_some, Option.some.injEq] at hx
        subst hx
        have hln : (g.kill b2 g.ok).live n := (h1.live n).2 (by show (hget (subHeap b2 .bad s.heap) n).isSome = true; rw [hx0]; rfl)
        refine ⟨(h1.blk n x0 hx0).inv m hn hln fun k' hk' => hw k' fun e8 => ?_, fun hf => h1.flat n x0 hx0 (by cases x0 <;> exact hf)⟩
        exact (hrow k rfl).2.1 n hn hln (by rw [← e8]; exact hk'))
    grown_setRow hrow
    (fun k' hk' => by
      have sz : ∀ n, g.live n → g.has n k' → k' < (w.setRow k e0).heap.size := fun n h3 h4 => by have := (h.own n k' h3 h4).1; simpa using this
      have free : ∀ n, (n = b ∨ n = b2) → g.live n → g.has n k' → ¬ (g.kill b2 g.ok).ok k' ∧ (∀ m, m ≠ b → (g.kill b2 g.ok).live m → ¬ (g.kill b2 g.ok).has m k') ∧ (k' < X.B → X.M k') := fun n hn h3 h4 => by
        have := h.own n k' h3 h4
        refine ⟨this.2.2, fun m hm hlm hkm => ?_, this.2.1⟩
        have := h.disj m n k' hlm.1 h3 hkm h4
        rcases hn with rfl | rfl
        · exact hm this
        · exact hlm.2 this
      rcases hk' with hk' | ⟨r, u, h3, h4⟩
      · rw [hval] at hk'
        exact ⟨sz b hl (.inl hk'), .inr (.inr (free b (.inl rfl) hl (.inl hk')))⟩
      · rw [hinn] at h3
        rcases split r u h3 with ⟨r', rfl, h5⟩ | ⟨_, h5⟩
        · have h6 := has2 r' u k' h5 h4
          exact ⟨sz b2 hl2 h6, .inr (.inr (free b2 (.inr rfl) hl2 h6))⟩
        · exact ⟨sz b hl (.inr ⟨r, u, h5, h4⟩), .inr (.inr (free b (.inl rfl) hl (.inr ⟨r, u, h5, h4⟩)))⟩)
    (deep_blk hDeep hOk) (fun hf => by cases hf)
  refine .skip (w' := w.setRow k e0) ?_ (hN _ _ hs ⟨fun k' hk' _ => ⟨hw k' fun e => (hrow k rfl).1 (by rw [← e]; exact hk'), hk'⟩, fun n _ _ hln => ?_, fun n k' hn hln hk' => ⟨hw k' fun e8 => ?_, ?_⟩⟩)
  · simp only [execOp, ho, Instr.storeAt, q5, Instr.sureAddr, Sem.run_bind, Sem.run_pure, Result.andThen_ok]
    rw [show (Sem.run P (storeVar t ((⟨k, 0, none⟩ : Addr).add (i'.toNat * 1 + 0)) (a.eval z)) w) = _ from hrun]
    rfl
  · by_cases e8 : n = b
    · subst e8
      exact ⟨hl, hval, fun hn => absurd hT hn⟩
    · have hln : (g.live n ∧ n ≠ b2) := hln.resolve_right e8
      exact ⟨hln.1, if_neg e8, fun _ => if_neg e8⟩
  · exact hn (by rw [h.disj n b k hln hl (by rw [← e8]; exact hk') hk]; exact hT)
  · exact .inr (.inl ⟨hln, fun e8 => hn (by rw [e8]; exact hT2)⟩)
theorem storeX_ok (h : Sim X s a w g) {d : Nat} {t : TypeId} {y z : Operand} (he : storeX P s t (opd s y) (opd s z) (fun s => K s .bad) = some x) : OpOk P X a w g d (nameOf (opd s y) ++ nameOf (opd s z)) (.store t y z) K x := by
  intro N hN o ho
  have hy := h.opd y
  have hz := h.opd z
  unfold storeX at he
  split at he
  · rename_i i hi
    replace he := chk_some he
    obtain ⟨h0, he⟩ := he
    simp only [Bool.and_eq_true] at h0
    obtain ⟨h1, h2⟩ := h0
    have h1 := Nat.eq_of_beq_eq_true h1
    have hcells := cells_rv h hz h2
    have hone := ones_cells h hcells h2
    have hvs : (a.eval z).cells.size = i.size := by have := hcells.len; rw [Array.length_toList] at this; omega
    split at he
    · rename_i b of hyv
      rw [hyv] at hy
      obtain ⟨hl, k, hb1, hb2⟩ := hy
      cases hb : hget s.heap b with
      | none => rw [hb] at he; cases he
      | some blk =>
        cases blk with
        | row pin e ty l => rw [hb] at he; cases he
        | deep e ty l => rw [hb] at he; cases he
        | obj k y => rw [hb] at he; cases he
        | box pin cs =>
          rw [hb] at he
          simp only at he
          replace he := chk_some he
          obtain ⟨h3, he⟩ := he
          have h3 := Nat.le_of_ble_eq_true h3
          obtain ⟨k', cells, e, q1, q2, q3, q4⟩ := h.blk b _ hb
          rw [hb1] at q1; cases q1
          have hlen := q4.len
          have hrun := store_run (P := P) (w := w) (o := of) hi q3 hvs (by simp; omega) hone
          have hbk : g.has b k := .inl (by rw [hb1]; rfl)
          have hrow : ∀ k', some k = some k' → ¬ g.ok k' ∧ (∀ n, n ≠ b → g.live n → ¬ g.has n k') ∧ (k' < X.B → X.M k') := fun k' e' => by
            cases e'
            have := h.own b k hl hbk
            exact ⟨this.2.2, fun n hn hn2 e1 => hn (h.disj n b k hn2 hl e1 hbk), this.2.1⟩
          have hv : (g.set b (g.val b)).val b = g.val b := if_pos rfl
          have m : Mv w g (fun _ => False) (w.setRow k (cells.take of ++ (a.eval z).cells.toList ++ cells.drop (of + i.size)).toArray) (g.set b (g.val b)) := ⟨fun q hq hlt => ⟨grown_setRow.block q hlt (fun e' => (hrow q e'.symm).1 hq), hq⟩, fun n _ hn => ⟨.inl hn, by
            show (if n = b then g.val b else g.val n) = g.val n
            split
            · rename_i e'; rw [e']
            · rfl, by
            show (if n = b then _ else g.inn n) = g.inn n
            split
            · rename_i e'; rw [e']; exact funext fun p => (h.flat b _ hb rfl p).symm
            · rfl⟩⟩
          have hs := h.upd b (.box pin (cs.take of ++ (opd s z).cells ++ cs.drop (of + i.size))) (g.val b) _ (some k) (fun n => hget_set b n _ s.heap) grown_setRow hrow (fun _ => ⟨rfl, h.flat b _ hb rfl⟩) (fun k' hk' => by
            rw [hb1] at hk'; cases hk'
            exact ⟨by have := (h.own b k hl hbk).1; simpa using this, .inl rfl⟩)
            ⟨k, cells.take of ++ (a.eval z).cells.toList ++ cells.drop (of + i.size), e, hv.trans hb1, q2, setRow_heap w k _ _ e (0, 0) q3, (((q4.take.app hcells).app q4.drop).move m)⟩
          refine .skip (w' := w.setRow k (cells.take of ++ (a.eval z).cells.toList ++ cells.drop (of + i.size)).toArray) ?_ (hN _ .bad _ _ _ he hs trivial (Chg.row h hl (by rw [hyv]; simp [nameOf]) hbk grown_setRow))
          simp only [execOp, ho, Instr.storeAt, hb2, Instr.sureAddr, Sem.run_bind, Sem.run_pure, Result.andThen_ok]
          rw [show (Sem.run P (storeVar t ((⟨k, 0, none⟩ : Addr).add of) (a.eval z)) w) = _ from hrun]
          rfl
    · rename_i b j sz of hyv
      rw [hyv] at hy
      cases hf : frzAll ((opd s z).cells.length + 1) s (opd s z).cells [] with
      | none => rw [hf] at he; cases he
      | some p =>
        obtain ⟨s1, vs⟩ := p
        rw [hf] at he
        simp only at he
        obtain ⟨g1, f1, f2, f3⟩ := frzAll_ok h hcells (done := []) (us := []) trivial hf
        rw [List.nil_append] at f2
        cases hb : hget s1.heap b with
        | none => rw [hb] at he; cases he
        | some blk =>
          cases blk with
          | box pin cs => rw [hb] at he; cases he
          | deep e ty l => rw [hb] at he; cases he
          | obj k y => rw [hb] at he; cases he
          | row pin e ty l =>
            rw [hb] at he
            simp only at he
            replace he := chk_some he
            obtain ⟨h3, he⟩ := he
            simp only [Bool.and_eq_true] at h3
            have h4 := Nat.le_of_ble_eq_true h3.1
            have h5 : sz = ty.sz := Nat.eq_of_beq_eq_true h3.2
            subst h5
            cases hall : ty.all ((ty.cells (rdT ty l j)).take of ++ vs ++ (ty.cells (rdT ty l j)).drop (of + i.size)) with
            | none => rw [hall] at he; cases he
            | some x' =>
              rw [hall] at he
              simp only at he
              obtain ⟨_, k, n, c, q1, q2, q3, q4⟩ := hy
              have hl1 : g1.live b := (f1.live b).2 (by rw [hb]; rfl)
              have hval := (f3.less b hl1).2.1
              obtain ⟨inner, ⟨hil, hv⟩, hreps⟩ := f1.blk b _ hb
              rw [hval, q1] at hv
              rcases hv with ⟨hv, _⟩ | ⟨k', cap, cur, hv, hB, hk, hcap, hmax, hcs, htake⟩
              · cases hv
              · cases hv
                have hjl : j.toNat < l.length := by omega
                have hget := rdT_get (t := ty) q2 q3
                have hrep := hreps.get hget
                generalize hcc : (inner.drop (j.toNat * ty.sz)).take ty.sz = cc at hrep
                have hccl := hrep.len
                have hrv := hrep.rvs
                have hnew := all_ok ((hrv.take (n := of) |>.app f2).app (hrv.drop (n := of + i.size))) hall
                -- the row, taken apart
                have hA : inner = inner.take (j.toNat * ty.sz) ++ (cc ++ inner.drop (j.toNat * ty.sz + ty.sz)) := by
                  rw [← hcc, ← List.drop_drop, List.take_append_drop, List.take_append_drop]
                have hAl : (inner.take (j.toNat * ty.sz)).length = j.toNat * ty.sz := by
                  rw [List.length_take, hil]
                  have := Nat.mul_le_mul_right ty.sz (show j.toNat ≤ l.length by omega)
                  omega
                have hcur : cur.toList = inner.take (j.toNat * ty.sz) ++ (cc ++ (inner.drop (j.toNat * ty.sz + ty.sz) ++ cur.toList.drop (l.length * ty.sz))) := by
                  conv => lhs; rw [← List.take_append_drop (l.length * ty.sz) cur.toList, htake, hA]
                  simp
                have hsize : j.toNat * ty.sz + of + i.size ≤ cur.size := by
                  have h8 : (j.toNat + 1) * ty.sz ≤ c * ty.sz := Nat.mul_le_mul_right ty.sz (by omega)
                  rw [Nat.succ_mul] at h8
                  omega
                have hrun := store_run (P := P) (w := w) (o := j.toNat * ty.sz + of) hi hk hvs hsize hone
                have e1 : cur.toList.take (j.toNat * ty.sz + of) = inner.take (j.toNat * ty.sz) ++ cc.take of := by
                  conv => lhs; rw [hcur]
                  exact take_mid _ _ _ hAl (by omega)
                have e2 : cur.toList.drop (j.toNat * ty.sz + of + i.size) = cc.drop (of + i.size) ++ (inner.drop (j.toNat * ty.sz + ty.sz) ++ cur.toList.drop (l.length * ty.sz)) := by
                  conv => lhs; rw [hcur, Nat.add_assoc]
                  exact drop_mid _ _ _ hAl (by omega)
                have hbk : g1.has b k := .inl (by rw [hval, q1]; rfl)
                have hrow : ∀ k', some k = some k' → ¬ g1.ok k' ∧ (∀ n, n ≠ b → g1.live n → ¬ g1.has n k') ∧ (k' < X.B → X.M k') := fun k' e' => by
                  cases e'
                  have := f1.own b k hl1 hbk
                  exact ⟨this.2.2, fun n hn hn2 e1 => hn (f1.disj n b k hn2 hl1 e1 hbk), this.2.1⟩
                rw [e1, e2] at hrun
                have hreps' := Reps.set hnew hreps hjl
                have hok : OkMv w g1 (w.setRow k (inner.take (j.toNat * ty.sz) ++ cc.take of ++ (a.eval z).cells.toList ++ (cc.drop (of + i.size) ++ (inner.drop (j.toNat * ty.sz + ty.sz) ++ cur.toList.drop (l.length * ty.sz)))).toArray) (g1.set b (g1.val b)) := fun q hq hlt => ⟨grown_setRow.block q hlt (fun e' => (hrow q e'.symm).1 hq), hq⟩
                have hlen' := hreps'.len
                rw [List.length_set] at hlen'
                have hs := f1.upd b (.row pin e ty (l.set j.toNat x')) (g1.val b) _ (some k) (fun n => hget_set b n _ s1.heap) grown_setRow hrow (fun _ => ⟨rfl, f1.flat b _ hb rfl⟩) (fun k' hk' => by
                  rw [hval, q1] at hk'; cases hk'
                  have := (f1.own b k hl1 hbk).1
                  exact ⟨by simpa using this, .inl rfl⟩)
                  (own_set (inner := inner.take (j.toNat * ty.sz) ++ (cc.take of ++ (a.eval z).cells.toList ++ cc.drop (of + i.size)) ++ inner.drop (j.toNat * ty.sz + ty.sz)) (by
                    rw [List.length_set, hval, q1]
                    refine ⟨hlen', .inr ⟨k, c, _, rfl, hB, setRow_heap w k _ _ e (0, 0) hk, hcap, hmax, ?_, ?_⟩⟩
                    · have e3 := congrArg List.length hcur
                      have hvl : (a.eval z).cells.toList.length = i.size := by rw [Array.length_toList]; exact hvs
                      simp only [List.length_append, Array.length_toList] at e3
                      simp only [List.size_toArray, List.length_append, List.length_take, List.length_drop, hvl] at e3 ⊢
                      rw [← hcs]
                      omega
                    · rw [List.toList_toArray]
                      have e4 : inner.take (j.toNat * ty.sz) ++ cc.take of ++ (a.eval z).cells.toList ++ (cc.drop (of + i.size) ++ (inner.drop (j.toNat * ty.sz + ty.sz) ++ cur.toList.drop (l.length * ty.sz))) = (inner.take (j.toNat * ty.sz) ++ (cc.take of ++ (a.eval z).cells.toList ++ cc.drop (of + i.size)) ++ inner.drop (j.toNat * ty.sz + ty.sz)) ++ cur.toList.drop (l.length * ty.sz) := by simp
                      rw [e4, ← hlen', List.take_left]) (hreps'.move hok))
                refine .skip (w' := w.setRow k _) ?_ (hN _ .bad _ _ _ he hs trivial (Chg.frz h f3 (Chg.row f1 hl1 (by rw [hyv]; simp [nameOf]) hbk grown_setRow)))
                simp only [execOp, ho, Instr.storeAt, q4, Instr.sureAddr, Sem.run_bind, Sem.run_pure, Result.andThen_ok]
                rw [show (Sem.run P (storeVar t ((⟨k, 0, none⟩ : Addr).add (j.toNat * ty.sz + of)) (a.eval z)) w) = _ from hrun]
                rfl
    · rename_i b p sz of hyv
      rw [hyv] at hy
      split at he
      · rename_i e t0 l hb
        obtain ⟨hl, q, i', k, n, c, rfl, q2, q3, q4, q5⟩ := hy
        have hd := h.blk b _ hb
        split at he
        · rename_i e2 t2 y0 hr
          replace he := chk_some he
          obtain ⟨h3, he⟩ := he
          simp only [Bool.and_eq_true] at h3
          have h31 : of = 0 := Nat.eq_of_beq_eq_true h3.1
          have h32 : i.size = 1 := Nat.eq_of_beq_eq_true h3.2.1
          have h33 : sz = 1 := Nat.eq_of_beq_eq_true h3.2.2
          subst h31; subst h33
          split at he
          · rename_i b2 hzv
            replace he := chk_some he
            obtain ⟨h4, he⟩ := he
            have h4 : b2 ≠ b := by intro e'; subst e'; simp at h4
            split at he
            · rename_i y2 hrow
              split at he
              · rename_i l2 hup
                rw [hzv] at hz hcells
                exact store_row (T := nameOf (opd s y) ++ nameOf (opd s z)) (hT := by rw [hyv]; simp [nameOf]) (hT2 := by rw [hzv]; simp [nameOf]) (hN := fun w' g' hs hc => hN _ .bad undef w' g' he hs trivial hc) h hl hb hd hr q2 q3 q4 h4 hz hrow hup ho hi h32 q5
              · cases he
            · cases he
          · cases he
        · rename_i t' y0 hne hr
          replace he := chk_some he
          obtain ⟨h3, he⟩ := he
          simp only [Bool.and_eq_true] at h3
          have h31 := h3.1
          have h32 := Nat.le_of_ble_eq_true h3.2.1
          have h33 : sz = t'.sz := Nat.eq_of_beq_eq_true h3.2.2
          subst h33
          split at he
          · rename_i y1 hall
            split at he
            · rename_i l2 hup
              exact store_leaf (T := nameOf (opd s y) ++ nameOf (opd s z)) (hT := by rw [hyv]; simp [nameOf]) (hN := fun w' g' hs hc => hN _ .bad undef w' g' he hs trivial hc) h hl hb hd hr q2 q3 q4 h31 hcells hone hvs h32 hall hup ho hi q5
            · cases he
          · cases he
        · cases he
      · cases he
    · cases he
  · cases he
/-! ### Maps and iterators -/
theorem grown_setBlock {r : Nat} {o : Obj} : w.grownBy { w with heap := w.heap.setIfInBounds r o } (some r) :=
  ⟨rfl, rfl, rfl, by simp, fun k _ hk => by
    show (w.heap.setIfInBounds r o)[k]? = _
    exact Array.getElem?_setIfInBounds_ne (fun e => hk (by rw [e]))⟩
theorem obj_new (h : Sim X s a w g) {d : Nat} {T : List Nat} {op : Op} {k : ObK} {y : k.T} {o1 : Obj} (hd : hget s.heap d = none) (ho1 : ObjIs k y o1)
    (hrun : ∀ o : Oper, o.op = op → (execOp a.eval o).run P w = .ok (.value (refOf k w.heap.size)) (w.alloc o1)) (he : K ⟨s.env, (d, .obj k y) :: s.heap⟩ (.own d) = some x) : OpOk P X a w g d T op K x := by
  intro N hN o ho
  have hg := World.grownBy_alloc w o1 none
  have hs := h.fresh hd (x := .obj k y) (v := refOf k w.heap.size) hg (fun q hq => by
    rw [refOf_blk] at hq; cases hq
    exact ⟨Nat.le_refl _, by show w.heap.size < (w.heap.push _).size; rw [Array.size_push]; omega⟩)
    ⟨w.heap.size, o1, if_pos rfl, h.base, heap_alloc_new w o1, ho1⟩
  exact .value (hrun o ho) (hN _ _ _ _ _ he hs ⟨.inr rfl, (show _ = if d = d then refOf k w.heap.size else g.val d from (if_pos rfl).symm)⟩ (Chg.set h hg))
/-- An object is written. -/
theorem obj_set (h : Sim X s a w g) {b : Nat} {k : ObK} {y y' : k.T} (hb : hget s.heap b = some (.obj k y)) {r : Nat} {o o' : Obj} (hv : g.val b = refOf k r) (hr : X.B ≤ r) (ho : w.heap[r]? = some o) (ho' : ObjIs k y' o') :
    Sim X ⟨s.env, (b, .obj k y') :: hdel s.heap b⟩ a { w with heap := w.heap.setIfInBounds r o' } (g.set b (g.val b)) ∧ ∀ (d : Nat) (T : List Nat), b ∈ T → Chg d T w g { w with heap := w.heap.setIfInBounds r o' } (g.set b (g.val b)) := by
  have hl : g.live b := (h.live b).2 (by rw [hb]; rfl)
  have hbk : g.has b r := .inl (by rw [hv]; exact refOf_blk k r)
  have hlt : r < w.heap.size := block_lt ho
  have hrow : ∀ k', some r = some k' → ¬ g.ok k' ∧ (∀ n, n ≠ b → g.live n → ¬ g.has n k') ∧ (k' < X.B → X.M k') := fun k' e' => by
    cases e'
    have := h.own b r hl hbk
    exact ⟨this.2.2, fun n hn hn2 e1 => hn (h.disj n b r hn2 hl e1 hbk), this.2.1⟩
  refine ⟨h.upd b (.obj k y') (g.val b) _ (some r) (fun n => hget_set b n _ s.heap) grown_setBlock hrow (fun _ => ⟨rfl, h.flat b _ hb rfl⟩) (fun k' hk' => by
    rw [hv, refOf_blk] at hk'; cases hk'
    exact ⟨by simpa using hlt, .inl rfl⟩) ⟨r, o', (show (if b = b then g.val b else g.val b) = _ by rw [if_pos rfl]; exact hv), hr, ?_, ho'⟩, fun d T hT => Chg.row h hl hT hbk grown_setBlock⟩
  show (w.heap.setIfInBounds r o')[r]? = some o'
  exact Array.getElem?_setIfInBounds_self_of_lt hlt
theorem makeMX_ok (h : Sim X s a w g) {d : Nat} {T : List Nat} {t : TypeId} (he : makeMX P d s t K = some x) : OpOk P X a w g d T (.makeMap t none) K x := by
  unfold makeMX at he
  split at he
  · rename_i ty hm hd
    obtain ⟨kt, et, hu, hk, _⟩ := mapTy_some hm
    exact obj_new (k := .map ty) (y := ([] : List (Int × ty.T))) h hd ⟨#[], 0, rfl, trivial⟩ (fun o ho => by simp only [execOp, ho]; rfl) he
  · cases he
theorem putX_ok (h : Sim X s a w g) {d : Nat} {t : TypeId} {m y z : Operand} (he : putX P s t (opd s m) (opd s y) (opd s z) K = some x) : OpOk P X a w g d (nameOf (opd s m)) (.mapUpdate t m y z) K x := by
  have hm := h.opd m
  have hy := h.opd y
  have hz := h.opd z
  unfold putX at he
  split at he
  · rename_i ty b i hmt hmv hyv
    rw [hmv] at hm ⊢
    rw [hyv] at hy
    have hy : a.eval y = .int .i64 i := hy
    split at he
    · rename_i l v hl hall
      obtain ⟨kt, et, hu, hk, hty, _⟩ := mapTy_some hmt
      obtain ⟨r, o, e1, e2, e3, ⟨es, clock, rfl, hmi⟩, hlive, hhas⟩ := obj_at h (mapAt_some hl)
      have hv : a.eval m = .map (some r) := hm.2.trans e1
      have hval : ∀ (w : World) (g : Gh), RV w g (ty.av v) (a.eval z) := by
        have hrep : Rep w g.ok ty v [a.eval z] := all_ok (as := [opd s z]) (vs := [a.eval z]) ⟨hz, trivial⟩ hall
        rcases hty with ⟨q, rfl⟩ | rfl
        · have hh : [a.eval z] = [.int q v] := hrep
          have hh := (List.cons.inj hh).1
          exact fun _ _ => hh
        · have hh : [a.eval z] = [.bool v] := hrep
          have hh := (List.cons.inj hh).1
          exact fun _ _ => hh
      have hck : (Instr.checkKey false 10000 kt (.int .i64 i)).run P w = .ok () w := MapKept.run_checkKey hk (show MapKept.IsKey (.int .i64) (.int .i64 i) from rfl) false 9999
      have fin : ∀ o' : Obj, ObjIs (.map ty) (mput l i v) o' → (Instr.mapUpdate t (.map (some r)) (.int .i64 i) (a.eval z)).run P w = .ok () { w with heap := w.heap.setIfInBounds r o' } → OpOk P X a w g d (nameOf (.own b)) (.mapUpdate t m y z) K x := fun o' ho' hrun N hN o ho => by
        obtain ⟨hs, hc⟩ := obj_set h (mapAt_some hl) e1 e2 e3 ho'
        refine .skip (w' := { w with heap := w.heap.setIfInBounds r o' }) ?_ (hN _ .bad _ _ _ he hs trivial (hc d _ (by simp [nameOf])))
        simp only [execOp, ho, hv, hy]
        rw [Sem.run_bind, hrun]; rfl
      rcases findNow_is (i := i) 0 hmi with ⟨q1, q2, q3⟩ | ⟨j, v0, e, q1, q2, q3, q4, q5, q6⟩
      · refine fin (.map (es.push ⟨.int .i64 i, a.eval z, clock⟩) (clock + 1)) ⟨_, _, rfl, by rw [Array.toList_push]; exact q3 _ _ _ hval⟩ ?_
        simp [Instr.mapUpdate, run_underlying hu, MapKept.run_getObj_map e3, hck, MapKept.run_findKey hk q2, MapKept.run_setObj_map _ e3, Result.andThen]
      · have q3' : es[j]? = some e := by simpa using q3
        refine fin (.map (es.modify j fun e => { e with key := .int .i64 i, val := a.eval z }) clock) ⟨_, _, rfl, by rw [Array.toList_modify]; exact q6 _ _ hval⟩ ?_
        simp [Instr.mapUpdate, run_underlying hu, MapKept.run_getObj_map e3, hck, MapKept.run_findKey hk q2, q3', q4, Instr.keyThatStays, Instr.sameBits, MapKept.run_setObj_map _ e3, Result.andThen]
    · cases he
  · cases he
theorem rangeX_ok (h : Sim X s a w g) {d : Nat} {T : List Nat} {t : TypeId} {y : Operand} (he : rangeX P d s t (opd s y) K = some x) : OpOk P X a w g d T (.range t y) K x := by
  have hy := h.opd y
  unfold rangeX at he
  split at he
  · rename_i z hu hyv hd
    rw [hyv] at hy
    have hy : a.eval y = .string z := hy
    exact obj_new (k := .iter) (y := (z, 0)) h hd (o1 := .stringIter z 0) (show Obj.stringIter z 0 = Obj.stringIter z 0 from rfl) (fun o ho => by
      simp only [execOp, ho, hy]
      rw [Sem.run_bind, run_range_string w t z hu]; rfl) he
  · cases he
theorem nextX_ok (h : Sim X s a w g) {d : Nat} {y : Operand} {isS : Bool} (he : nextX s (opd s y) isS K = some x) : OpOk P X a w g d (nameOf (opd s y)) (.next y isS) K x := by
  have hy := h.opd y
  unfold nextX at he
  split at he
  · rename_i b hyv
    rw [hyv] at hy ⊢
    split at he
    · rename_i z hb
      obtain ⟨r, o1, e1, e2, e3, e4, hlive, hhas⟩ := obj_at h hb
      have e4 : o1 = .stringIter z.1 z.2 := e4
      subst e4
      have hv : a.eval y = .pointer (some ⟨r, 0, none⟩) := hy.2.trans e1
      intro N hN o ho
      by_cases hlt : z.2 < z.1.size
      · obtain ⟨hs, hc⟩ := obj_set (k := .iter) h hb e1 e2 e3 (y' := (z.1, runeTo z.1 z.2)) (o' := .stringIter z.1 (z.2 + (Utf8.decode z.1 z.2).2)) (by show Obj.stringIter z.1 _ = Obj.stringIter z.1 (runeTo z.1 z.2); rw [runeTo, if_pos hlt])
        refine .value (v := .tuple #[.bool true, .int .i64 z.2, .int .i32 (runeAt z.1 z.2)]) (w' := { w with heap := w.heap.setIfInBounds r (.stringIter z.1 (z.2 + (Utf8.decode z.1 z.2).2)) }) ?_ (hN _ _ _ _ _ he hs (by show _ = if decide (z.2 < z.1.size) = true then _ else _; rw [if_pos (decide_eq_true hlt)]) (hc d _ (by simp [nameOf])))
        simp [execOp, ho, hv, Instr.next, getObj, setObj, Sem.run, e3, Result.andThen, hlt, goInt, runeAt]
      · obtain ⟨hs, hc⟩ := obj_set (k := .iter) h hb e1 e2 e3 (y' := (z.1, runeTo z.1 z.2)) (o' := .stringIter z.1 z.2) (by show Obj.stringIter z.1 _ = Obj.stringIter z.1 (runeTo z.1 z.2); rw [runeTo, if_neg hlt])
        have ew : { w with heap := w.heap.setIfInBounds r (.stringIter z.1 z.2) } = w := by
          have : w.heap.setIfInBounds r (.stringIter z.1 z.2) = w.heap := by
            apply Array.ext_getElem?
            intro k
            by_cases ek : r = k
            · subst ek; rw [Array.getElem?_setIfInBounds_self_of_lt (block_lt e3), e3]
            · rw [Array.getElem?_setIfInBounds_ne ek]
          rw [this]
        rw [ew] at hs hc
        refine .value (v := .tuple #[.bool false]) (w' := w) ?_ (hN _ _ _ _ _ he hs (by show _ = if decide (z.2 < z.1.size) = true then _ else _; rw [if_neg (by simpa using hlt)]) (hc d _ (by simp [nameOf])))
        simp [execOp, ho, hv, Instr.next, getObj, Sem.run, e3, Result.andThen, hlt]
    · cases he
  · cases he
theorem memX_ok (h : Sim X s a w g) {d : Nat}  {op : Op} (he : memX P d s op K = some x) : OpOk P X a w g d (touch s op) op K x := by
  unfold memX at he
  split at he
  · rename_i t
    split at he
    · rename_i i hi
      split at he
      · rename_i z hz
        refine boxX_ok h (cells := z.cells) t (RVs.ofVals z.cells.toList) (fun o ho => ?_) he
        simp [execOp, ho, Instr.alloc, zeroValue, typeInfo, hi, hz, newVar, newRow]
      · cases he
    · cases he
  · rename_i t y
    replace he := chk_some he
    obtain ⟨h0, he⟩ := he
    refine boxX_ok h (cells := (a.eval y).cells) t (cells_rv h (h.opd y) h0) (fun o ho => ?_) he
    simp [execOp, ho, Instr.box, newVar, newRow]
  · exact makeX_ok h he
  · exact litX_ok h he
  · exact makeMX_ok h he
  · exact putX_ok h he
  · exact rangeX_ok h he
  · exact nextX_ok h he
  · exact storeX_ok h he
  · rename_i c
    split at he
    · rename_i y z t t' h1 h2 h3
      replace he := chk_some he
      obtain ⟨h0, he⟩ := he
      have := Nat.eq_of_beq_eq_true h0
      subst this
      have ht : touch s (.call c) = nameOf (opd s y) := by simp only [touch, h2]
      rw [ht]
      exact appX_ok h h1 h2 h3 he
    · cases he
  · cases he
end
end Go.Proofs.YthgmnlfbgajchaaV
