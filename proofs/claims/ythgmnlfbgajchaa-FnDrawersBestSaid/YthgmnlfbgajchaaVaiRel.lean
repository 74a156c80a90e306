/- What a known value says of a value, and a state of a run: each step holds of the model's own run. Conditions: those that each theorem states. -/
/- A checked abstract run of Go functions: what a known value says of a memory. -/
import Derived.Test.YthgmnlfbgajchaaVaiCore
import Derived.Laws.Entries
import Derived.Laws.Cells
import Derived.Laws.AppendOwn
import Derived.ChangeKeysEq
namespace Go.Proofs.YthgmnlfbgajchaaV
set_option linter.unusedVariables false
set_option linter.unusedSimpArgs false
/-- A row that is read: where its elements lie. -/
def RowAt {β : Type} (R : β → List Value → Prop) (sz : Nat) (w : World) (ok : Nat → Prop) (l : List β) (v : Value) : Prop :=
  ∃ A c, v = .slice A l.length c ∧ l.length ≤ c ∧ (A = none → c = 0) ∧ (l = [] ∨ ∃ ad : Addr, A = some ad ∧ ok ad.block ∧
    ∀ (j : Nat) x, l[j]? = some x → ∃ cc : List Value, cc.length = sz ∧ R x cc ∧ ∀ (i : Nat) u, cc[i]? = some u → w.cell? (ad.add (j * sz + i)) = some u)
/-- Cells that spell a value; whole rows lie in blocks that 'ok' names. -/
def Rep (w : World) (ok : Nat → Prop) : (t : Ty) → t.T → List Value → Prop
  | .int k, n, cs => cs = [.int k n]
  | .bool, b, cs => cs = [.bool b]
  | .str, s, cs => cs = [.string s]
  | .slc _ t, l, cs => ∃ v, cs = [v] ∧ RowAt (Rep w ok t) t.sz w ok l v
  | .pr a b, p, cs => ∃ c1 c2, cs = c1 ++ c2 ∧ Rep w ok a p.1 c1 ∧ Rep w ok b p.2 c2
theorem Rep.len {w : World} {ok : Nat → Prop} : ∀ {t : Ty} {x : t.T} {cs : List Value}, Rep w ok t x cs → cs.length = t.sz
  | .int _, _, _, h => by rw [show _ = _ from h]; rfl
  | .bool, _, _, h => by rw [show _ = _ from h]; rfl
  | .str, _, _, h => by rw [show _ = _ from h]; rfl
  | .slc _ _, _, _, ⟨_, h, _⟩ => by rw [h]; rfl
  | .pr _ _, _, _, ⟨_, _, h, h1, h2⟩ => by rw [h, List.length_append, h1.len, h2.len]; rfl
theorem Ty.sz_pos : ∀ t : Ty, 0 < t.sz
  | .int _ | .bool | .str | .slc _ _ => Nat.one_pos
  | .pr a b => Nat.lt_of_lt_of_le a.sz_pos (Nat.le_add_right _ _)
theorem add_block (a : Addr) (n : Nat) : (a.add n).block = a.block := by unfold Addr.add; split <;> rfl
theorem add_add (a : Addr) (m n : Nat) : (a.add m).add n = a.add (m + n) := by
  unfold Addr.add
  by_cases hm : m = 0
  · subst hm; simp
  · by_cases hn : n = 0
    · subst hn; simp [hm]
    · rw [if_neg hm, if_neg hn, if_neg (by omega)]; simp [Nat.add_assoc]
theorem RowAt.move {β : Type} {R R' : β → List Value → Prop} {sz : Nat} {w w' : World} {ok ok' : Nat → Prop} (hpos : 0 < sz) (hlen : ∀ x cc, R x cc → cc.length = sz) (hR : ∀ x cc, R x cc → R' x cc)
    (hb : ∀ k, ok k → k < w.heap.size → w'.heap[k]? = w.heap[k]? ∧ ok' k) {l : List β} {v : Value} (h : RowAt R sz w ok l v) : RowAt R' sz w' ok' l v := by
  obtain ⟨A, c, e, hl, h0, h⟩ := h
  refine ⟨A, c, e, hl, h0, ?_⟩
  rcases h with h | ⟨ad, ha, ho, hc⟩
  · exact .inl h
  · cases l with
    | nil => exact .inl rfl
    | cons x0 l =>
      obtain ⟨cc, hcl, _, hcu⟩ := hc 0 x0 rfl
      have hu := hcu 0 (cc[0]'(by omega)) (List.getElem?_eq_getElem (by omega))
      have hlt := World.block_lt_of_cell? w _ hu
      rw [add_block] at hlt
      obtain ⟨hs, ho'⟩ := hb ad.block ho hlt
      refine .inr ⟨ad, ha, ho', fun j x hj => ?_⟩
      obtain ⟨cc, hcl, hr, hcu⟩ := hc j x hj
      refine ⟨cc, hcl, hR x cc hr, fun i u hi => ?_⟩
      rw [← hcu i u hi]
      exact World.cell?_of_block (by rw [add_block]; exact hs)
/-- What lies in blocks that stay as they are stays. -/
theorem Rep.move {w w' : World} {ok ok' : Nat → Prop} (hb : ∀ k, ok k → k < w.heap.size → w'.heap[k]? = w.heap[k]? ∧ ok' k) :
    ∀ {t : Ty} {x : t.T} {cs : List Value}, Rep w ok t x cs → Rep w' ok' t x cs
  | .int _, _, _, h => h
  | .bool, _, _, h => h
  | .str, _, _, h => h
  | .slc _ t, _, _, ⟨v, hv, h⟩ => ⟨v, hv, RowAt.move t.sz_pos (fun _ _ h => h.len) (fun _ _ h => Rep.move hb h) hb h⟩
  | .pr _ _, _, _, ⟨c1, c2, h, h1, h2⟩ => ⟨c1, c2, h, Rep.move hb h1, Rep.move hb h2⟩
/-- Cells that spell values, one after the other. -/
def Reps (w : World) (ok : Nat → Prop) (t : Ty) : List t.T → List Value → Prop
  | [], cs => cs = []
  | x :: l, cs => ∃ c1 c2, cs = c1 ++ c2 ∧ Rep w ok t x c1 ∧ Reps w ok t l c2
theorem Reps.move {w w' : World} {ok ok' : Nat → Prop} (hb : ∀ k, ok k → k < w.heap.size → w'.heap[k]? = w.heap[k]? ∧ ok' k) {t : Ty} : ∀ {l : List t.T} {cs : List Value}, Reps w ok t l cs → Reps w' ok' t l cs
  | [], _, h => h
  | _ :: _, _, ⟨c1, c2, h, h1, h2⟩ => ⟨c1, c2, h, Rep.move hb h1, Reps.move hb h2⟩
theorem Reps.len {w : World} {ok : Nat → Prop} {t : Ty} : ∀ {l : List t.T} {cs : List Value}, Reps w ok t l cs → cs.length = l.length * t.sz
  | [], _, h => by rw [show _ = _ from h]; simp
  | _ :: l, _, ⟨c1, c2, h, h1, h2⟩ => by rw [h, List.length_append, h1.len, h2.len, List.length_cons, Nat.succ_mul]; omega
theorem Reps.app {w : World} {ok : Nat → Prop} {t : Ty} : ∀ {l l' : List t.T} {cs cs' : List Value}, Reps w ok t l cs → Reps w ok t l' cs' → Reps w ok t (l ++ l') (cs ++ cs')
  | [], _, _, _, h, h' => by rw [show _ = _ from h]; exact h'
  | _ :: _, _, _, _, ⟨c1, c2, h, h1, h2⟩, h' => ⟨c1, c2 ++ _, by rw [h, List.append_assoc], h1, h2.app h'⟩
theorem Reps.get {w : World} {ok : Nat → Prop} {t : Ty} : ∀ {l : List t.T} {cs : List Value} {j : Nat} {y : t.T}, Reps w ok t l cs → l[j]? = some y → Rep w ok t y ((cs.drop (j * t.sz)).take t.sz)
  | x :: l, _, 0, y, ⟨c1, c2, h, h1, h2⟩, e => by
    simp only [List.getElem?_cons_zero, Option.some.injEq] at e
    subst e
    rw [h, Nat.zero_mul, List.drop_zero, ← h1.len, List.take_left]; exact h1
  | x :: l, _, j + 1, y, ⟨c1, c2, h, h1, h2⟩, e => by
    rw [h, show (j + 1) * t.sz = c1.length + j * t.sz by rw [h1.len, Nat.succ_mul]; omega, List.drop_length_add_append]
    exact h2.get (by simpa using e)
  | [], _, _, _, _, e => by simp at e
theorem Reps.set {w : World} {ok : Nat → Prop} {t : Ty} {y : t.T} {cc : List Value} (hy : Rep w ok t y cc) : ∀ {l : List t.T} {cs : List Value} {j : Nat}, Reps w ok t l cs → j < l.length → Reps w ok t (l.set j y) (cs.take (j * t.sz) ++ cc ++ cs.drop (j * t.sz + t.sz))
  | x :: l, _, 0, ⟨c1, c2, h, h1, h2⟩, _ => by
    rw [h, Nat.zero_mul, List.take_zero, List.nil_append, Nat.zero_add, ← h1.len, List.drop_left]
    exact ⟨cc, c2, rfl, hy, h2⟩
  | x :: l, _, j + 1, ⟨c1, c2, h, h1, h2⟩, e => by
    rw [List.length_cons] at e
    have := Reps.set hy h2 (show j < l.length by omega)
    have e1 : (c1 ++ c2).take ((j + 1) * t.sz) = c1 ++ c2.take (j * t.sz) := by
      rw [show (j + 1) * t.sz = c1.length + j * t.sz by rw [h1.len, Nat.succ_mul]; omega, List.take_length_add_append]
    have e2 : (c1 ++ c2).drop ((j + 1) * t.sz + t.sz) = c2.drop (j * t.sz + t.sz) := by
      rw [show (j + 1) * t.sz + t.sz = c1.length + (j * t.sz + t.sz) by rw [h1.len, Nat.succ_mul]; omega, List.drop_length_add_append]
    refine ⟨c1, c2.take (j * t.sz) ++ cc ++ c2.drop (j * t.sz + t.sz), ?_, h1, this⟩
    rw [h, e1, e2]; simp
  | [], _, _, _, e => by simp at e
theorem Reps.rep {w : World} {ok : Nat → Prop} {t : Ty} {y : t.T} {cc : List Value} (hy : Rep w ok t y cc) : ∀ n : Nat, Reps w ok t (List.replicate n y) ((List.replicate n cc).flatten)
  | 0 => rfl
  | n + 1 => ⟨cc, _, by rw [List.replicate_succ, List.flatten_cons], hy, Reps.rep hy n⟩
/-! ### Known values -/
structure Gh where
  ok : Nat → Prop           -- the blocks that no one writes
  live : Nat → Prop         -- the names in use
  val : Nat → Value         -- the slice of an own row; a box's address
  inn : Nat → List Nat → Option Value   -- the slices of a deep row's inner rows, by their places
def blkOf : Value → Option Nat
  | .slice (some a) _ _ => some a.block
  | .pointer (some a) => some a.block
  | .map (some r) => some r
  | _ => none
def nats (p : List Int) : List Nat := p.map Int.toNat
/-- The slice at a place of a name. -/
def Gh.at (g : Gh) (b : Nat) (q : List Nat) : Option Value := match q with
  | [] => some (g.val b)
  | q => g.inn b q
/-- The blocks of a name. -/
def Gh.has (g : Gh) (n k : Nat) : Prop := blkOf (g.val n) = some k ∨ ∃ p v, g.inn n p = some v ∧ blkOf v = some k
mutual
def RV (w : World) (g : Gh) : AV → Value → Prop
  | .bad, _ => True
  | .undef, v => v = Go.undef
  | .int k n, v => v = .int k n
  | .bool b, v => v = .bool b
  | .str s, v => v = .string s
  | .row _ t l, v => RowAt (Rep w g.ok t) t.sz w g.ok l v
  | .own b, v => g.live b ∧ v = g.val b
  | .nilS, v => v = .slice none 0 0
  | .agg vs, v => ∃ cs : List Value, v = .agg cs.toArray ∧ RVs w g vs cs
  | .tup vs, v => ∃ cs : List Value, v = .tuple cs.toArray ∧ RVs w g vs cs
  | .ptr b o, v => g.live b ∧ ∃ k : Nat, g.val b = .pointer (some ⟨k, 0, none⟩) ∧ v = .pointer (some ((⟨k, 0, none⟩ : Addr).add o))
  | .elt b i sz o, v => g.live b ∧ ∃ (k n c : Nat), g.val b = .slice (some ⟨k, 0, none⟩) n c ∧ 0 ≤ i ∧ i < n ∧ v = .pointer (some ((⟨k, 0, none⟩ : Addr).add (i.toNat * sz + o)))
  | .relt _ t l i o, v => 0 ≤ i ∧ i < l.length ∧ ∃ (a : Addr) (c : Nat), RowAt (Rep w g.ok t) t.sz w g.ok l (.slice (some a) l.length c) ∧ v = .pointer (some (a.add (i.toNat * t.sz + o)))
  | .nilP, v => v = .pointer none
  | .nilI, v => v = .nilIface
  | .nxt ok i c, v => v = if ok then .tuple #[.bool true, .int .i64 i, .int .i32 c] else .tuple #[.bool false]
  | .dp b p, v => g.live b ∧ g.inn b (nats p) = some v
  | .de b p sz o, v => g.live b ∧ ∃ (q : List Int) (i : Int) (k n c : Nat), p = q ++ [i] ∧ g.at b (nats q) = some (.slice (some ⟨k, 0, none⟩) n c) ∧ 0 ≤ i ∧ i < n ∧ v = .pointer (some ((⟨k, 0, none⟩ : Addr).add (i.toNat * sz + o)))
  | .rptr vs o, v => ∃ (k : Nat) (cs : List Value) (e : TypeId), g.ok k ∧ w.heap[k]? = some (.cells cs.toArray e (0, 0)) ∧ RVs w g vs cs ∧ v = .pointer (some ((⟨k, 0, none⟩ : Addr).add o))
  | .fn f caps, v => ∃ cs : List Value, v = .func (.func f) #[] cs.toArray ∧ RVs w g caps cs
def RVs (w : World) (g : Gh) : List AV → List Value → Prop
  | [], [] => True
  | a :: as, v :: vs => RV w g a v ∧ RVs w g as vs
  | _, _ => False
end
section
variable {w w' : World} {g g' : Gh}
theorem RVs.len : ∀ {as : List AV} {vs : List Value}, RVs w g as vs → vs.length = as.length
  | [], [], _ => rfl
  | _ :: _, _ :: _, h => congrArg (· + 1) (RVs.len h.2)
  | [], _ :: _, h => h.elim
  | _ :: _, [], h => h.elim
theorem RVs.nth : ∀ {as : List AV} {vs : List Value} {n : Nat} {a : AV}, RVs w g as vs → nth as n = some a → ∃ v, vs[n]? = some v ∧ RV w g a v
  | a :: as, v :: vs, 0, _, h, e => ⟨v, rfl, by simp only [YthgmnlfbgajchaaV.nth, Option.some.injEq] at e; rw [← e]; exact h.1⟩
  | a :: as, v :: vs, n + 1, _, h, e => by
    simp only [YthgmnlfbgajchaaV.nth] at e
    obtain ⟨u, hu, hr⟩ := RVs.nth h.2 e
    exact ⟨u, by simpa using hu, hr⟩
  | [], _, _, _, _, e => by simp [YthgmnlfbgajchaaV.nth] at e
  | _ :: _, [], _, _, h, _ => by simp [RVs] at h
theorem RVs.app : ∀ {as bs : List AV} {vs us : List Value}, RVs w g as vs → RVs w g bs us → RVs w g (as ++ bs) (vs ++ us)
  | [], _, [], _, _, h => h
  | _ :: _, _, _ :: _, _, h, h' => ⟨h.1, RVs.app h.2 h'⟩
  | [], _, _ :: _, _, h, _ => h.elim
  | _ :: _, _, [], _, h, _ => h.elim
theorem RVs.drop : ∀ {n : Nat} {as : List AV} {vs : List Value}, RVs w g as vs → RVs w g (as.drop n) (vs.drop n)
  | 0, _, _, h => h
  | n + 1, [], [], h => h
  | n + 1, _ :: _, _ :: _, h => RVs.drop (n := n) h.2
  | _ + 1, [], _ :: _, h => h.elim
  | _ + 1, _ :: _, [], h => h.elim
theorem RVs.take : ∀ {n : Nat} {as : List AV} {vs : List Value}, RVs w g as vs → RVs w g (as.take n) (vs.take n)
  | 0, _, _, _ => trivial
  | n + 1, [], [], h => h
  | n + 1, _ :: _, _ :: _, h => ⟨h.1, RVs.take (n := n) h.2⟩
  | _ + 1, [], _ :: _, h => h.elim
  | _ + 1, _ :: _, [], h => h.elim
theorem Gh.at_eq {b : Nat} (h1 : g'.val b = g.val b) (h2 : g'.inn b = g.inn b) (q : List Nat) : g'.at b q = g.at b q := by
  cases q with
  | nil => simp [Gh.at, h1]
  | cons _ _ => simp [Gh.at, h2]
/-- Blocks that are read only, and names: how they may move on. -/
structure Mv (w : World) (g : Gh) (b : Nat → Prop) (w' : World) (g' : Gh) : Prop where
  blk : ∀ k, g.ok k → k < w.heap.size → w'.heap[k]? = w.heap[k]? ∧ g'.ok k
  name : ∀ n, ¬ b n → g.live n → g'.live n ∧ g'.val n = g.val n ∧ g'.inn n = g.inn n
mutual
/-- What is known is still known, elder names aside. -/
theorem RV.sub {b : Nat} {r : AV} (m : Mv w g (· = b) w' g') (hr : g.live b → RV w' g' r (g.val b)) :
    ∀ {a : AV} {v : Value}, RV w g a v → RV w' g' (AV.sub b r a) v
  | .bad, _, _ => trivial
  | .undef, _, h => h
  | .int _ _, _, h => h
  | .bool _, _, h => h
  | .str _, _, h => h
  | .row _ t _, _, h => RowAt.move t.sz_pos (fun _ _ h => h.len) (fun _ _ h => Rep.move m.blk h) m.blk h
  | .own b', v, h => by
    unfold AV.sub
    by_cases e : b' = b
    · subst e; rw [Nat.beq_refl]; rw [show v = _ from h.2]; exact hr h.1
    · rw [show Nat.beq b' b = false from by rw [← Bool.not_eq_true, Nat.beq_eq]; exact e]
      exact ⟨(m.name b' e h.1).1, h.2.trans (m.name b' e h.1).2.1.symm⟩
  | .nilS, _, h => h
  | .agg _, _, ⟨cs, e, h⟩ => ⟨cs, e, RVs.sub m hr h⟩
  | .tup _, _, ⟨cs, e, h⟩ => ⟨cs, e, RVs.sub m hr h⟩
  | .ptr b' o, v, h => by
    unfold AV.sub
    by_cases e : b' = b
    · subst e; rw [Nat.beq_refl]; trivial
    · rw [show Nat.beq b' b = false from by rw [← Bool.not_eq_true, Nat.beq_eq]; exact e]
      obtain ⟨hl, k, h1, h2⟩ := h
      exact ⟨(m.name b' e hl).1, k, (m.name b' e hl).2.1.trans h1, h2⟩
  | .elt b' i sz o, v, h => by
    unfold AV.sub
    by_cases e : b' = b
    · subst e; rw [Nat.beq_refl]; trivial
    · rw [show Nat.beq b' b = false from by rw [← Bool.not_eq_true, Nat.beq_eq]; exact e]
      obtain ⟨hl, k, n, c, h1, h2⟩ := h
      exact ⟨(m.name b' e hl).1, k, n, c, (m.name b' e hl).2.1.trans h1, h2⟩
  | .relt _ t _ _ _, _, ⟨h0, h1, a, c, h, e⟩ => ⟨h0, h1, a, c, RowAt.move t.sz_pos (fun _ _ h => h.len) (fun _ _ h => Rep.move m.blk h) m.blk h, e⟩
  | .nilP, _, h => h
  | .nilI, _, h => h
  | .nxt _ _ _, _, h => h
  | .dp b' p, v, ⟨hl, h1⟩ => by
    unfold AV.sub
    by_cases e : b' = b
    · subst e; rw [Nat.beq_refl]; trivial
    · rw [show Nat.beq b' b = false from by rw [← Bool.not_eq_true, Nat.beq_eq]; exact e]
      exact ⟨(m.name b' e hl).1, by rw [(m.name b' e hl).2.2]; exact h1⟩
  | .de b' p sz o, v, ⟨hl, q, i, k, n, c, h1, h2, h3⟩ => by
    unfold AV.sub
    by_cases e : b' = b
    · subst e; rw [Nat.beq_refl]; trivial
    · rw [show Nat.beq b' b = false from by rw [← Bool.not_eq_true, Nat.beq_eq]; exact e]
      exact ⟨(m.name b' e hl).1, q, i, k, n, c, h1, by rw [Gh.at_eq (m.name b' e hl).2.1 (m.name b' e hl).2.2]; exact h2, h3⟩
  | .rptr _ _, _, ⟨k, cs, e, h1, h2, h3, h4⟩ => ⟨k, cs, e, (m.blk k h1 (by
      rcases Nat.lt_or_ge k w.heap.size with h | h
      · exact h
      · rw [Array.getElem?_eq_none h] at h2; cases h2)).2, by
      rw [(m.blk k h1 (by
        rcases Nat.lt_or_ge k w.heap.size with h | h
        · exact h
        · rw [Array.getElem?_eq_none h] at h2; cases h2)).1]; exact h2, RVs.sub m hr h3, h4⟩
  | .fn _ _, _, ⟨cs, e, h⟩ => ⟨cs, e, RVs.sub m hr h⟩
theorem RVs.sub {b : Nat} {r : AV} (m : Mv w g (· = b) w' g') (hr : g.live b → RV w' g' r (g.val b)) :
    ∀ {as : List AV} {vs : List Value}, RVs w g as vs → RVs w' g' (AV.subs b r as) vs
  | [], [], _ => trivial
  | _ :: _, _ :: _, h => ⟨RV.sub m hr h.1, RVs.sub m hr h.2⟩
  | [], _ :: _, h => h.elim
  | _ :: _, [], h => h.elim
end
mutual
theorem RV.move (m : Mv w g (fun _ => False) w' g') : ∀ {a : AV} {v : Value}, RV w g a v → RV w' g' a v
  | .bad, _, _ => trivial
  | .undef, _, h => h
  | .int _ _, _, h => h
  | .bool _, _, h => h
  | .str _, _, h => h
  | .row _ t _, _, h => RowAt.move t.sz_pos (fun _ _ h => h.len) (fun _ _ h => Rep.move m.blk h) m.blk h
  | .own b, _, h => ⟨(m.name b id h.1).1, h.2.trans (m.name b id h.1).2.1.symm⟩
  | .nilS, _, h => h
  | .agg _, _, ⟨cs, e, h⟩ => ⟨cs, e, RVs.move m h⟩
  | .tup _, _, ⟨cs, e, h⟩ => ⟨cs, e, RVs.move m h⟩
  | .ptr b o, v, ⟨hl, k, h1, h2⟩ => ⟨(m.name b id hl).1, k, (m.name b id hl).2.1.trans h1, h2⟩
  | .elt b i sz o, v, ⟨hl, k, n, c, h1, h2⟩ => ⟨(m.name b id hl).1, k, n, c, (m.name b id hl).2.1.trans h1, h2⟩
  | .relt _ t _ _ _, _, ⟨h0, h1, a, c, h, e⟩ => ⟨h0, h1, a, c, RowAt.move t.sz_pos (fun _ _ h => h.len) (fun _ _ h => Rep.move m.blk h) m.blk h, e⟩
  | .nilP, _, h => h
  | .nilI, _, h => h
  | .nxt _ _ _, _, h => h
  | .dp b p, v, ⟨hl, h1⟩ => ⟨(m.name b id hl).1, by rw [(m.name b id hl).2.2]; exact h1⟩
  | .de b p sz o, v, ⟨hl, q, i, k, n, c, h1, h2, h3⟩ => ⟨(m.name b id hl).1, q, i, k, n, c, h1, by rw [Gh.at_eq (m.name b id hl).2.1 (m.name b id hl).2.2]; exact h2, h3⟩
  | .rptr _ _, _, ⟨k, cs, e, h1, h2, h3, h4⟩ => ⟨k, cs, e, (m.blk k h1 (by
      rcases Nat.lt_or_ge k w.heap.size with h | h
      · exact h
      · rw [Array.getElem?_eq_none h] at h2; cases h2)).2, by
      rw [(m.blk k h1 (by
        rcases Nat.lt_or_ge k w.heap.size with h | h
        · exact h
        · rw [Array.getElem?_eq_none h] at h2; cases h2)).1]; exact h2, RVs.move m h3, h4⟩
  | .fn _ _, _, ⟨cs, e, h⟩ => ⟨cs, e, RVs.move m h⟩
theorem RVs.move (m : Mv w g (fun _ => False) w' g') : ∀ {as : List AV} {vs : List Value}, RVs w g as vs → RVs w' g' as vs
  | [], [], _ => trivial
  | _ :: _, _ :: _, h => ⟨RV.move m h.1, RVs.move m h.2⟩
  | [], _ :: _, h => h.elim
  | _ :: _, [], h => h.elim
end
/-- Names keep their places; what leads into the deep row 'b' is forgotten. -/
structure MvI (w : World) (g : Gh) (b : Nat) (w' : World) (g' : Gh) : Prop where
  blk : ∀ k, g.ok k → k < w.heap.size → w'.heap[k]? = w.heap[k]? ∧ g'.ok k
  name : ∀ n, g.live n → g'.live n ∧ g'.val n = g.val n ∧ (n ≠ b → g'.inn n = g.inn n)
mutual
theorem RV.inv {b : Nat} (m : MvI w g b w' g') : ∀ {a : AV} {v : Value}, RV w g a v → RV w' g' (AV.inv b a) v
  | .bad, _, _ => trivial
  | .undef, _, h => h
  | .int _ _, _, h => h
  | .bool _, _, h => h
  | .str _, _, h => h
  | .row _ t _, _, h => RowAt.move t.sz_pos (fun _ _ h => h.len) (fun _ _ h => Rep.move m.blk h) m.blk h
  | .own b, _, h => ⟨(m.name b h.1).1, h.2.trans (m.name b h.1).2.1.symm⟩
  | .nilS, _, h => h
  | .agg _, _, ⟨cs, e, h⟩ => ⟨cs, e, RVs.inv m h⟩
  | .tup _, _, ⟨cs, e, h⟩ => ⟨cs, e, RVs.inv m h⟩
  | .ptr b o, v, ⟨hl, k, h1, h2⟩ => ⟨(m.name b hl).1, k, (m.name b hl).2.1.trans h1, h2⟩
  | .elt b i sz o, v, ⟨hl, k, n, c, h1, h2⟩ => ⟨(m.name b hl).1, k, n, c, (m.name b hl).2.1.trans h1, h2⟩
  | .relt _ t _ _ _, _, ⟨h0, h1, a, c, h, e⟩ => ⟨h0, h1, a, c, RowAt.move t.sz_pos (fun _ _ h => h.len) (fun _ _ h => Rep.move m.blk h) m.blk h, e⟩
  | .nilP, _, h => h
  | .nilI, _, h => h
  | .nxt _ _ _, _, h => h
  | .dp b' p, v, ⟨hl, h1⟩ => by
    unfold AV.inv
    by_cases e : b' = b
    · subst e; rw [Nat.beq_refl]; trivial
    · rw [show Nat.beq b' b = false from by rw [← Bool.not_eq_true, Nat.beq_eq]; exact e]
      exact ⟨(m.name b' hl).1, by rw [(m.name b' hl).2.2 e]; exact h1⟩
  | .de b' p sz o, v, ⟨hl, q, i, k, n, c, h1, h2, h3⟩ => by
    unfold AV.inv
    by_cases e : b' = b
    · subst e; rw [Nat.beq_refl]; trivial
    · rw [show Nat.beq b' b = false from by rw [← Bool.not_eq_true, Nat.beq_eq]; exact e]
      exact ⟨(m.name b' hl).1, q, i, k, n, c, h1, by rw [Gh.at_eq (m.name b' hl).2.1 ((m.name b' hl).2.2 e)]; exact h2, h3⟩
  | .rptr _ _, _, ⟨k, cs, e, h1, h2, h3, h4⟩ => ⟨k, cs, e, (m.blk k h1 (by
      rcases Nat.lt_or_ge k w.heap.size with h | h
      · exact h
      · rw [Array.getElem?_eq_none h] at h2; cases h2)).2, by
      rw [(m.blk k h1 (by
        rcases Nat.lt_or_ge k w.heap.size with h | h
        · exact h
        · rw [Array.getElem?_eq_none h] at h2; cases h2)).1]; exact h2, RVs.inv m h3, h4⟩
  | .fn _ _, _, ⟨cs, e, h⟩ => ⟨cs, e, RVs.inv m h⟩
theorem RVs.inv {b : Nat} (m : MvI w g b w' g') : ∀ {as : List AV} {vs : List Value}, RVs w g as vs → RVs w' g' (AV.invs b as) vs
  | [], [], _ => trivial
  | _ :: _, _ :: _, h => ⟨RV.inv m h.1, RVs.inv m h.2⟩
  | [], _ :: _, h => h.elim
  | _ :: _, [], h => h.elim
end
mutual
/-- What is known without a name hangs on no name. -/
theorem RV.pure (hb : ∀ k, g.ok k → k < w.heap.size → w'.heap[k]? = w.heap[k]? ∧ g'.ok k) : ∀ {a : AV} {v : Value}, a.pure = true → RV w g a v → RV w' g' a v
  | .bad, _, h, _ => by cases h
  | .undef, _, _, h => h
  | .int _ _, _, _, h => h
  | .bool _, _, _, h => h
  | .str _, _, _, h => h
  | .row _ t _, _, _, h => RowAt.move t.sz_pos (fun _ _ h => h.len) (fun _ _ h => Rep.move hb h) hb h
  | .own b, _, h, _ => by cases h
  | .nilS, _, _, h => h
  | .agg _, _, p, ⟨cs, e, h⟩ => ⟨cs, e, RVs.pure hb p h⟩
  | .tup _, _, p, ⟨cs, e, h⟩ => ⟨cs, e, RVs.pure hb p h⟩
  | .ptr b o, _, h, _ => by cases h
  | .elt b i sz o, _, h, _ => by cases h
  | .relt _ t _ _ _, _, _, ⟨h0, h1, a, c, h, e⟩ => ⟨h0, h1, a, c, RowAt.move t.sz_pos (fun _ _ h => h.len) (fun _ _ h => Rep.move hb h) hb h, e⟩
  | .nilP, _, _, h => h
  | .nilI, _, _, h => h
  | .nxt _ _ _, _, _, h => h
  | .dp _ _, _, h, _ => by cases h
  | .de _ _ _ _, _, h, _ => by cases h
  | .rptr _ _, _, p, ⟨k, cs, e, h1, h2, h3, h4⟩ => ⟨k, cs, e, (hb k h1 (by
      rcases Nat.lt_or_ge k w.heap.size with h | h
      · exact h
      · rw [Array.getElem?_eq_none h] at h2; cases h2)).2, by
      rw [(hb k h1 (by
        rcases Nat.lt_or_ge k w.heap.size with h | h
        · exact h
        · rw [Array.getElem?_eq_none h] at h2; cases h2)).1]; exact h2, RVs.pure hb p h3, h4⟩
  | .fn _ _, _, p, ⟨cs, e, h⟩ => ⟨cs, e, RVs.pure hb p h⟩
theorem RVs.pure (hb : ∀ k, g.ok k → k < w.heap.size → w'.heap[k]? = w.heap[k]? ∧ g'.ok k) : ∀ {as : List AV} {vs : List Value}, AV.pures as = true → RVs w g as vs → RVs w' g' as vs
  | [], [], _, _ => trivial
  | _ :: _, _ :: _, p, h => by
    simp only [AV.pures, Bool.and_eq_true] at p
    exact ⟨RV.pure hb p.1 h.1, RVs.pure hb p.2 h.2⟩
  | [], _ :: _, _, h => h.elim
  | _ :: _, [], _, h => h.elim
end
theorem RV.ofVal (v : Value) : RV w g (ofVal v) v := by
  unfold YthgmnlfbgajchaaV.ofVal
  split <;> simp [RV]
theorem RVs.ofVals : ∀ (vs : List Value), RVs w g (ofVals vs) vs
  | [] => trivial
  | v :: vs => ⟨RV.ofVal v, RVs.ofVals vs⟩
end
/-! ### A state and a run -/
/-- A deep row: its slice, and those of its inner rows. -/
def DeepAt (B : Nat) (w : World) (inn : List Nat → Option Value) : (t : Ty) → Nat → List t.T → List Nat → Value → Prop
  | .slc e' t', e, l, p, v => (∃ inner : List Value, w.ownsRow B e 1 v l.length inner ∧ ∀ (i : Nat) (x : List t'.T), l[i]? = some x → ∃ u, inner[i]? = some u ∧ inn (p ++ [i]) = some u ∧ DeepAt B w inn t' e' x (p ++ [i]) u) ∧ ∀ i q, l.length ≤ i → inn (p ++ i :: q) = none
  | t, e, l, p, v => t.flat = true ∧ (∃ inner : List Value, w.ownsRow B e t.sz v l.length inner ∧ Reps w (fun _ => False) t l inner) ∧ ∀ i q, inn (p ++ i :: q) = none
/-- No block twice. -/
structure DeepOk (B : Nat) (v : Value) (inn : List Nat → Option Value) : Prop where
  root : inn [] = none
  far : ∀ q u k, inn q = some u → blkOf u = some k → B ≤ k ∧ blkOf v ≠ some k
  one : ∀ q q' u u' k, inn q = some u → inn q' = some u' → blkOf u = some k → blkOf u' = some k → q = q'
/-- A map's entries. -/
def MapIs (t : Ty) : List MapEntry → List (Int × t.T) → Prop
  | [], [] => True
  | e :: es, x :: l => (e.key = .int .i64 x.1 ∧ ∀ (w : World) (g : Gh), RV w g (t.av x.2) e.val) ∧ MapIs t es l
  | _, _ => False
/-- What an object of the machine is. -/
def ObjIs : (k : ObK) → k.T → Obj → Prop
  | .map t, l, o => ∃ es clock, o = .map es clock ∧ MapIs t es.toList l
  | .iter, y, o => o = .stringIter y.1 y.2
def refOf : ObK → Nat → Value
  | .map _, r => .map (some r)
  | .iter, r => .pointer (some ⟨r, 0, none⟩)
def ObjAt (B : Nat) (w : World) (v : Value) (k : ObK) (x : k.T) : Prop := ∃ r o, v = refOf k r ∧ B ≤ r ∧ w.heap[r]? = some o ∧ ObjIs k x o
/-- What a block's name says. -/
def BlkRel (B : Nat) (w : World) (g : Gh) (b : Nat) : Blk → Prop
  | .row pin e t l => ∃ inner, w.ownsRow (bif pin then 0 else B) e t.sz (g.val b) l.length inner ∧ Reps w g.ok t l inner
  | .box pin cs => ∃ (k : Nat) (cells : List Value) (e : TypeId), g.val b = .pointer (some ⟨k, 0, none⟩) ∧ (bif pin then 0 else B) ≤ k ∧ w.heap[k]? = some (.cells cells.toArray e (0, 0)) ∧ RVs w g cs cells
  | .deep e t l => DeepAt B w (g.inn b) t e l [] (g.val b) ∧ DeepOk B (g.val b) (g.inn b)
  | .obj k x => ObjAt B w (g.val b) k x
theorem refOf_blk (k : ObK) (r : Nat) : blkOf (refOf k r) = some r := by cases k <;> rfl
theorem ObjAt.move {B : Nat} {w w' : World} {v : Value} {k : ObK} {x : k.T} (hk : ∀ r, blkOf v = some r → w'.heap[r]? = w.heap[r]?) (h : ObjAt B w v k x) : ObjAt B w' v k x := by
  obtain ⟨r, o, e1, e2, e3, e4⟩ := h
  exact ⟨r, o, e1, e2, by rw [hk r (by rw [e1]; exact refOf_blk k r)]; exact e3, e4⟩
structure Kept (B : Nat) (M : Nat → Prop) (w0 w : World) : Prop where
  os : w.os = w0.os
  tape : w.tape = w0.tape
  output : w.output = w0.output
  size : w0.heap.size ≤ w.heap.size
  block : ∀ k, k < B → ¬ M k → w.heap[k]? = w0.heap[k]?
/-- Variables of the library that are whole numbers. -/
def Glob (G : List Nat) (w : World) (g : Gh) : Prop := ∀ k ∈ G, g.ok k ∧ ∃ m : Int, w.cell? ⟨k, 0, none⟩ = some (.int .i64 m)
theorem cell_lt {w : World} {a : Addr} {v : Value} (h : w.cell? a = some v) : a.block < w.heap.size := by
  rcases Nat.lt_or_ge a.block w.heap.size with h1 | h1
  · exact h1
  · unfold World.cell? at h
    rw [Array.getElem?_eq_none h1] at h
    cases h
theorem Glob.move {G : List Nat} {w w' : World} {g g' : Gh} (h : Glob G w g) (m : ∀ k, g.ok k → k < w.heap.size → w'.heap[k]? = w.heap[k]? ∧ g'.ok k) : Glob G w' g' := fun k hk => by
  obtain ⟨h1, n, h2⟩ := h k hk
  obtain ⟨h3, h4⟩ := m k h1 (cell_lt h2)
  refine ⟨h4, n, ?_⟩
  rw [← h2]
  unfold World.cell?
  simp only
  rw [h3]
structure Cx where
  B : Nat
  ok0 : Nat → Prop
  M : Nat → Prop
  w0 : World
  N : Nat
  G : List Nat              -- blocks that hold a whole number, come what may (variables of the library)
structure Sim (X : Cx) (s : St) (a : Act) (w : World) (g : Gh) : Prop where
  env : ∀ t, RV w g (get s.env t) (a.tmps.getD t undef)
  live : ∀ b, g.live b ↔ (hget s.heap b).isSome = true
  blk : ∀ b x, hget s.heap b = some x → BlkRel X.B w g b x
  disj : ∀ b b' k, g.live b → g.live b' → g.has b k → g.has b' k → b = b'
  own : ∀ b k, g.live b → g.has b k → k < w.heap.size ∧ (k < X.B → X.M k) ∧ ¬ g.ok k
  flat : ∀ b x, hget s.heap b = some x → x.flat = true → ∀ p, g.inn b p = none
  ok : ∀ k, g.ok k → k < w.heap.size ∧ (k < X.B → X.ok0 k)
  size : a.tmps.size = X.N
  defers : a.defers = []
  kept : Kept X.B X.M X.w0 w
  base : X.B ≤ w.heap.size
  glob : Glob X.G w g
theorem get_put (s : St) (d : Option Nat) (v : AV) (t : Nat) : get (s.put d v).env t = if d = some t then v else get s.env t := by
  cases d with
  | none => simp [St.put]
  | some d =>
    simp only [St.put, get]
    by_cases h : d = t
    · subst h; simp
    · rw [show Nat.beq d t = false from by rw [← Bool.not_eq_true, Nat.beq_eq]; exact h]; simp [h]
/-- A slot is written. -/
theorem Sim.put {X : Cx} {s : St} {a : Act} {w : World} {g : Gh} (h : Sim X s a w g) {d : Option Nat} (hd : ∀ t, d = some t → t < X.N) {v : AV} {cv : Value} (hv : RV w g v cv) : Sim X (s.put d v) (a.put d cv) w g := by
  have hh : (s.put d v).heap = s.heap := by cases d <;> rfl
  refine ⟨fun t => ?_, by rw [hh]; exact h.live, by rw [hh]; exact h.blk, h.disj, h.own, by rw [hh]; exact h.flat, h.ok, ?_, ?_, h.kept, h.base, h.glob⟩
  · rw [get_put]
    cases d with
    | none => simpa [Act.put] using h.env t
    | some d =>
      have hlt : d < a.tmps.size := by rw [h.size]; exact hd d rfl
      by_cases e : d = t
      · subst e
        simp only [if_true, Act.put]
        rw [Array.getD_eq_getD_getElem?, Array.getElem?_setIfInBounds_self_of_lt hlt]; exact hv
      · rw [if_neg (by simpa using e)]
        have : (a.put (some d) cv).tmps.getD t undef = a.tmps.getD t undef := by
          simp only [Act.put]
          rw [Array.getD_eq_getD_getElem?, Array.getD_eq_getD_getElem?, Array.getElem?_setIfInBounds_ne e]
        rw [this]; exact h.env t
  · cases d with
    | none => exact h.size
    | some d => simp only [Act.put, Array.size_setIfInBounds]; exact h.size
  · cases d <;> exact h.defers
theorem Sim.opd {X : Cx} {s : St} {a : Act} {w : World} {g : Gh} (h : Sim X s a w g) (x : Operand) : RV w g (opd s x) (a.eval x) := by
  cases x with
  | tmp t => exact h.env t
  | const v => exact RV.ofVal v
  | global g' => trivial
  | func f => exact ⟨[], rfl, trivial⟩
/-! ### Changes of memory -/
/-- A name's block that is left alone says what it said. -/
theorem ownsRow_move {B e sz n : Nat} {w w' : World} {v : Value} {inner : List Value} (hk : ∀ k, blkOf v = some k → w'.heap[k]? = w.heap[k]?) (h : w.ownsRow B e sz v n inner) : w'.ownsRow B e sz v n inner := by
  obtain ⟨h1, h2⟩ := h
  refine ⟨h1, ?_⟩
  rcases h2 with h2 | ⟨k, cap, cur, e1, e2, e3, e4⟩
  · exact .inl h2
  · exact .inr ⟨k, cap, cur, e1, e2, by rw [hk k (by rw [e1]; rfl)]; exact e3, e4⟩
theorem Rep.none {w w' : World} {ok ok' : Nat → Prop} : ∀ {t : Ty} {y : t.T} {cs : List Value}, t.flat = true → Rep w ok t y cs → Rep w' ok' t y cs
  | .int _, _, _, _, h => h
  | .bool, _, _, _, h => h
  | .str, _, _, _, h => h
  | .slc _ _, _, _, hf, _ => by cases hf
  | .pr a b, _, _, hf, ⟨c1, c2, h, h1, h2⟩ => by
    simp only [Ty.flat, Bool.and_eq_true] at hf
    exact ⟨c1, c2, h, Rep.none hf.1 h1, Rep.none hf.2 h2⟩
theorem Reps.none {w w' : World} {ok ok' : Nat → Prop} {t : Ty} (hf : t.flat = true) : ∀ {l : List t.T} {cs : List Value}, Reps w ok t l cs → Reps w' ok' t l cs
  | [], _, h => h
  | _ :: _, _, ⟨c1, c2, h, h1, h2⟩ => ⟨c1, c2, h, Rep.none hf h1, Reps.none hf h2⟩
theorem DeepAt.move {B : Nat} {w w' : World} {inn : List Nat → Option Value} : ∀ {t : Ty} {e : Nat} {l : List t.T} {p : List Nat} {v : Value}, (∀ k, (blkOf v = some k ∨ ∃ q u, inn (p ++ q) = some u ∧ blkOf u = some k) → w'.heap[k]? = w.heap[k]?) → DeepAt B w inn t e l p v → DeepAt B w' inn t e l p v
  | .slc e' t', e, l, p, v, hk, ⟨⟨inner, h1, h2⟩, h3⟩ => ⟨⟨inner, ownsRow_move (fun k h => hk k (.inl h)) h1, fun i x hi => by
      obtain ⟨u, q1, q2, q3⟩ := h2 i x hi
      refine ⟨u, q1, q2, DeepAt.move (fun k h => ?_) q3⟩
      rcases h with h | ⟨q, u', e1, e2⟩
      · exact hk k (.inr ⟨[i], u, q2, h⟩)
      · exact hk k (.inr ⟨i :: q, u', by rw [List.append_assoc] at e1; exact e1, e2⟩)⟩, h3⟩
  | .int _, _, _, _, _, hk, ⟨h0, ⟨inner, h1, h2⟩, h3⟩ => ⟨h0, ⟨inner, ownsRow_move (fun k h => hk k (.inl h)) h1, Reps.none h0 h2⟩, h3⟩
  | .bool, _, _, _, _, hk, ⟨h0, ⟨inner, h1, h2⟩, h3⟩ => ⟨h0, ⟨inner, ownsRow_move (fun k h => hk k (.inl h)) h1, Reps.none h0 h2⟩, h3⟩
  | .str, _, _, _, _, hk, ⟨h0, ⟨inner, h1, h2⟩, h3⟩ => ⟨h0, ⟨inner, ownsRow_move (fun k h => hk k (.inl h)) h1, Reps.none h0 h2⟩, h3⟩
  | .pr _ _, _, _, _, _, hk, ⟨h0, ⟨inner, h1, h2⟩, h3⟩ => ⟨h0, ⟨inner, ownsRow_move (fun k h => hk k (.inl h)) h1, Reps.none h0 h2⟩, h3⟩
theorem BlkRel.deepMove {B : Nat} {w w' : World} {g g' : Gh} {b : Nat} {e : Nat} {t : Ty} {l : List t.T} (hv : g'.val b = g.val b) (hi : g'.inn b = g.inn b) (hk : ∀ k, g.has b k → w'.heap[k]? = w.heap[k]?) (h : BlkRel B w g b (.deep e t l)) : BlkRel B w' g' b (.deep e t l) := by
  obtain ⟨h1, h2⟩ := h
  refine ⟨?_, by rw [hv, hi]; exact h2⟩
  rw [hv, hi]
  refine h1.move fun k h => hk k ?_
  rcases h with h | ⟨q, u, e1, e2⟩
  · exact .inl h
  · exact .inr ⟨q, u, e1, e2⟩
theorem BlkRel.move {B : Nat} {w w' : World} {g g' : Gh} {b : Nat} {x : Blk} (m : Mv w g (fun _ => False) w' g') (hv : g'.val b = g.val b) (hi : g'.inn b = g.inn b) (hk : ∀ k, g.has b k → w'.heap[k]? = w.heap[k]?) (h : BlkRel B w g b x) : BlkRel B w' g' b x := by
  cases x with
  | row pin e t l =>
    obtain ⟨inner, ⟨h1, h2⟩, h3⟩ := h
    refine ⟨inner, ⟨h1, ?_⟩, h3.move m.blk⟩
    rw [hv]
    rcases h2 with h2 | ⟨k, cap, cur, e1, e2, e3, e4⟩
    · exact .inl h2
    · exact .inr ⟨k, cap, cur, e1, e2, by rw [hk k (.inl (by rw [e1]; rfl))]; exact e3, e4⟩
  | box pin cs =>
    obtain ⟨k, cells, e, e1, e2, e3, e4⟩ := h
    exact ⟨k, cells, e, by rw [hv]; exact e1, e2, by rw [hk k (.inl (by rw [e1]; rfl))]; exact e3, e4.move m⟩
  | deep e t l => exact h.deepMove hv hi hk
  | obj k x => show ObjAt B w' (g'.val b) k x; rw [hv]; exact ObjAt.move (fun r hr => hk r (.inl hr)) h
theorem BlkRel.sub {B : Nat} {w w' : World} {g g' : Gh} {b n : Nat} {x : Blk} {r : AV} (m : Mv w g (· = n) w' g') (hr : g.live n → RV w' g' r (g.val n)) (hv : g'.val b = g.val b) (hi : g'.inn b = g.inn b) (hk : ∀ k, g.has b k → w'.heap[k]? = w.heap[k]?) (h : BlkRel B w g b x) : BlkRel B w' g' b (Blk.sub n r x) := by
  cases x with
  | row pin e t l =>
    obtain ⟨inner, ⟨h1, h2⟩, h3⟩ := h
    refine ⟨inner, ⟨h1, ?_⟩, h3.move m.blk⟩
    rw [hv]
    rcases h2 with h2 | ⟨k, cap, cur, e1, e2, e3, e4⟩
    · exact .inl h2
    · exact .inr ⟨k, cap, cur, e1, e2, by rw [hk k (.inl (by rw [e1]; rfl))]; exact e3, e4⟩
  | box pin cs =>
    obtain ⟨k, cells, e, e1, e2, e3, e4⟩ := h
    exact ⟨k, cells, e, by rw [hv]; exact e1, e2, by rw [hk k (.inl (by rw [e1]; rfl))]; exact e3, e4.sub m hr⟩
  | deep e t l => exact h.deepMove hv hi hk
  | obj k x => show ObjAt B w' (g'.val b) k x; rw [hv]; exact ObjAt.move (fun r hr => hk r (.inl hr)) h
theorem get_subEnv (b : Nat) (r : AV) (t : Nat) : ∀ x : List (Nat × AV), get (subEnv b r x) t = AV.sub b r (get x t)
  | [] => rfl
  | (k, v) :: x => by
    simp only [subEnv, get]
    cases Nat.beq k t with
    | true => rfl
    | false => exact get_subEnv b r t x
theorem beq_ne {a b : Nat} (h : a ≠ b) : Nat.beq a b = false := by rw [← Bool.not_eq_true, Nat.beq_eq]; exact h
theorem hget_subHeap (b : Nat) (r : AV) (t : Nat) : ∀ x : List (Nat × Blk), hget (subHeap b r x) t = if t = b then none else (hget x t).map (Blk.sub b r)
  | [] => by simp [subHeap, hget]
  | (k, v) :: x => by
    simp only [subHeap]
    by_cases e : k = b
    · subst e
      rw [Nat.beq_refl]
      simp only [cond_true, hget_subHeap k r t x]
      by_cases h : t = k
      · simp [h]
      · rw [if_neg h, if_neg h]; simp only [hget]; rw [beq_ne (Ne.symm h)]; rfl
    · rw [beq_ne e]
      simp only [cond_false, hget]
      by_cases h : k = t
      · subst h; simp [e]
      · rw [beq_ne h]; exact hget_subHeap b r t x
theorem hget_hdel (b t : Nat) : ∀ x : List (Nat × Blk), hget (hdel x b) t = if t = b then none else hget x t
  | [] => by simp [hdel, hget]
  | (k, v) :: x => by
    simp only [hdel]
    by_cases e : k = b
    · subst e
      rw [Nat.beq_refl]
      simp only [cond_true, hget_hdel k t x]
      by_cases h : t = k
      · simp [h]
      · rw [if_neg h, if_neg h]; simp only [hget]; rw [beq_ne (Ne.symm h)]; rfl
    · rw [beq_ne e]
      simp only [cond_false, hget]
      by_cases h : k = t
      · subst h; simp [e]
      · rw [beq_ne h]; exact hget_hdel b t x
/-- A name dies. -/
def Gh.kill (g : Gh) (b : Nat) (ok : Nat → Prop) : Gh := ⟨ok, fun n => g.live n ∧ n ≠ b, g.val, g.inn⟩
theorem Sim.kill {X : Cx} {s : St} {a : Act} {w : World} {g : Gh} (h : Sim X s a w g) (b : Nat) (ok : Nat → Prop) (hok : ∀ k, g.ok k → ok k) (r : AV)
    (hnew : ∀ k, ok k → g.ok k ∨ (g.live b ∧ g.has b k ∧ X.B ≤ k)) (hr : g.live b → RV w (g.kill b ok) r (g.val b)) : Sim X (s.kill b r) a w (g.kill b ok) := by
  have m : Mv w g (· = b) w (g.kill b ok) := ⟨fun k hk _ => ⟨rfl, hok k hk⟩, fun n hn hl => ⟨⟨hl, hn⟩, rfl, rfl⟩⟩
  refine ⟨fun t => ?_, fun n => ?_, fun n x hx => ?_, fun n n' k hn hn' => h.disj n n' k hn.1 hn'.1, fun n k hn hk => ?_, fun n x hx hf => ?_, fun k hk => ?_, h.size, h.defers, h.kept, h.base, h.glob.move m.blk⟩
  · show RV w _ (get (subEnv b r s.env) t) _
    rw [get_subEnv]; exact (h.env t).sub m hr
  · show g.live n ∧ n ≠ b ↔ (hget (subHeap b r s.heap) n).isSome = true
    rw [hget_subHeap, h.live n]
    by_cases e : n = b
    · simp [e]
    · simp [e]
  · change hget (subHeap b r s.heap) n = some x at hx
    rw [hget_subHeap] at hx
    by_cases e : n = b
    · simp [e] at hx
    · rw [if_neg e] at hx
      cases hy : hget s.heap n with
      | none => rw [hy] at hx; cases hx
      | some y =>
        rw [hy] at hx
        simp only [Option.map_some, Option.some.injEq] at hx
        subst hx
        exact (h.blk n y hy).sub m hr rfl rfl (fun _ _ => rfl)
  · obtain ⟨h1, h2, h3⟩ := h.own n k hn.1 hk
    refine ⟨h1, h2, fun ho => ?_⟩
    rcases hnew k ho with h4 | ⟨h4, h5, _⟩
    · exact h3 h4
    · exact hn.2 (h.disj n b k hn.1 h4 hk h5)
  · change hget (subHeap b r s.heap) n = some x at hx
    rw [hget_subHeap] at hx
    by_cases e : n = b
    · simp [e] at hx
    · rw [if_neg e] at hx
      cases hy : hget s.heap n with
      | none => rw [hy] at hx; cases hx
      | some y =>
        rw [hy] at hx
        simp only [Option.map_some, Option.some.injEq] at hx
        subst hx
        exact h.flat n y hy (by cases y <;> exact hf)
  · rcases hnew k hk with h4 | ⟨h4, h5, h6⟩
    · exact h.ok k h4
    · exact ⟨(h.own b k h4 h5).1, fun hlt => absurd hlt (by omega)⟩
/-- A name's block is written, or a new block gets a name. -/
def Gh.set (g : Gh) (b : Nat) (v : Value) (inn : List Nat → Option Value := fun _ => none) : Gh := ⟨g.ok, fun n => g.live n ∨ n = b, fun n => if n = b then v else g.val n, fun n => if n = b then inn else g.inn n⟩
theorem Gh.set_has {g : Gh} {b n k : Nat} {v : Value} {inn : List Nat → Option Value} (h : n ≠ b) : (g.set b v inn).has n k ↔ g.has n k := by
  simp only [Gh.has, Gh.set, if_neg h]
/-- Something is written, or made: the one name 'b', the others as before. -/
theorem Sim.upd0 {X : Cx} {s : St} {a : Act} {w w' : World} {g : Gh} (h : Sim X s a w g) (b : Nat) (x : Blk) (v : Value) (inn : List Nat → Option Value) (env' : List (Nat × AV)) (heap' : List (Nat × Blk)) (row : Option Nat)
    (henv : ∀ t, RV w' (g.set b v inn) (get env' t) (a.tmps.getD t undef))
    (hh : ∀ n, n ≠ b → (hget heap' n = none ↔ hget s.heap n = none)) (hhb : hget heap' b = some x)
    (hbk : ∀ n y, n ≠ b → hget heap' n = some y → BlkRel X.B w' (g.set b v inn) n y ∧ (y.flat = true → ∀ p, g.inn n p = none))
    (hg : w.grownBy w' row)
    (hrow : ∀ k, row = some k → ¬ g.ok k ∧ (∀ n, n ≠ b → g.live n → ¬ g.has n k) ∧ (k < X.B → X.M k))
    (hb : ∀ k, (g.set b v inn).has b k → k < w'.heap.size ∧ (row = some k ∨ w.heap.size ≤ k ∨ (¬ g.ok k ∧ (∀ n, n ≠ b → g.live n → ¬ g.has n k) ∧ (k < X.B → X.M k))))
    (hx : BlkRel X.B w' (g.set b v inn) b x) (hf : x.flat = true → ∀ p, inn p = none) : Sim X ⟨env', heap'⟩ a w' (g.set b v inn) := by
  have free : ∀ k, (g.set b v inn).has b k → ¬ g.ok k ∧ (∀ n, n ≠ b → g.live n → ¬ g.has n k) ∧ (k < X.B → X.M k) := fun k hk => by
    rcases (hb k hk).2 with h3 | h3 | h3
    · exact hrow k h3
    · refine ⟨fun ho => by have := (h.ok k ho).1; omega, fun n _ hl hk => by have := (h.own n k hl hk).1; omega, fun hlt => by have := h.base; omega⟩
    · exact h3
  refine ⟨henv, fun n => ?_, fun n y hy => ?_, fun n n' k hn hn' hk hk' => ?_, fun n k hn hk => ?_, fun n y hy hfl p => ?_, fun k hk => ?_, h.size, h.defers, ?_, ?_, h.glob.move fun k hk hlt => ⟨hg.block k hlt (fun e => (hrow k e.symm).1 hk), hk⟩⟩
  · show g.live n ∨ n = b ↔ (hget heap' n).isSome = true
    by_cases e : n = b
    · subst e; rw [hhb]; simp
    · rw [h.live n, or_iff_left e]
      have := hh n e
      cases h1 : hget s.heap n <;> cases h2 : hget heap' n <;> simp_all
  · by_cases e : n = b
    · subst e; change hget heap' n = some y at hy; rw [hhb] at hy; cases hy; exact hx
    · exact (hbk n y e hy).1
  · by_cases e : n = b
    · by_cases e' : n' = b
      · rw [e, e']
      · subst e
        exact absurd ((Gh.set_has e').1 hk') ((free k hk).2.1 n' e' (hn'.resolve_right e'))
    · by_cases e' : n' = b
      · subst e'
        exact absurd ((Gh.set_has e).1 hk) ((free k hk').2.1 n e (hn.resolve_right e))
      · exact h.disj n n' k (hn.resolve_right e) (hn'.resolve_right e') ((Gh.set_has e).1 hk) ((Gh.set_has e').1 hk')
  · by_cases e : n = b
    · subst e
      exact ⟨(hb k hk).1, (free k hk).2.2, (free k hk).1⟩
    · have := h.own n k (hn.resolve_right e) ((Gh.set_has e).1 hk)
      exact ⟨Nat.lt_of_lt_of_le this.1 hg.size, this.2⟩
  · by_cases e : n = b
    · subst e; change hget heap' n = some y at hy; rw [hhb] at hy; cases hy
      show (if n = n then inn else g.inn n) p = none
      rw [if_pos rfl]; exact hf hfl p
    · show (if n = b then inn else g.inn n) p = none
      rw [if_neg e]; exact (hbk n y e hy).2 hfl p
  · have := h.ok k hk
    exact ⟨Nat.lt_of_lt_of_le this.1 hg.size, this.2⟩
  · exact ⟨hg.os.trans h.kept.os, hg.tape.trans h.kept.tape, hg.output.trans h.kept.output, Nat.le_trans h.kept.size hg.size, fun k hk hM => by
      rw [← h.kept.block k hk hM]
      exact hg.block k (Nat.lt_of_lt_of_le hk h.base) (fun e => hM ((hrow k e.symm).2.2 hk))⟩
  · exact Nat.le_trans h.base hg.size
theorem Sim.updI {X : Cx} {s : St} {a : Act} {w w' : World} {g : Gh} (h : Sim X s a w g) (b : Nat) (x : Blk) (v : Value) (inn : List Nat → Option Value) (heap' : List (Nat × Blk)) (row : Option Nat)
    (hh : ∀ n, hget heap' n = if n = b then some x else hget s.heap n) (hg : w.grownBy w' row)
    (hrow : ∀ k, row = some k → ¬ g.ok k ∧ (∀ n, n ≠ b → g.live n → ¬ g.has n k) ∧ (k < X.B → X.M k))
    (hv : g.live b → v = g.val b ∧ inn = g.inn b) (hb : ∀ k, (g.set b v inn).has b k → k < w'.heap.size ∧ (row = some k ∨ w.heap.size ≤ k ∨ (g.live b ∧ g.has b k)))
    (hx : BlkRel X.B w' (g.set b v inn) b x) (hf : x.flat = true → ∀ p, inn p = none) : Sim X ⟨s.env, heap'⟩ a w' (g.set b v inn) := by
  have m : Mv w g (fun _ => False) w' (g.set b v inn) := ⟨fun k hk hlt => ⟨hg.block k hlt (fun e => (hrow k e.symm).1 hk), hk⟩, fun n _ hl => ⟨.inl hl, by
    show (if n = b then v else g.val n) = g.val n
    by_cases e : n = b
    · subst e; rw [if_pos rfl]; exact (hv hl).1
    · rw [if_neg e], by
    show (if n = b then inn else g.inn n) = g.inn n
    by_cases e : n = b
    · subst e; rw [if_pos rfl]; exact (hv hl).2
    · rw [if_neg e]⟩⟩
  refine h.upd0 b x v inn s.env heap' row (fun t => (h.env t).move m) (fun n e => by rw [hh, if_neg e]) (by rw [hh, if_pos rfl]) (fun n y e hy => ?_) hg hrow (fun k hk => ⟨(hb k hk).1, ?_⟩) hx hf
  · rw [hh, if_neg e] at hy
    have hl : g.live n := (h.live n).2 (by rw [hy]; rfl)
    exact ⟨(h.blk n y hy).move m (if_neg e) (if_neg e) fun k hk => hg.block k (h.own n k hl hk).1 (fun e2 => (hrow k e2.symm).2.1 n e hl hk), h.flat n y hy⟩
  · rcases (hb k hk).2 with h1 | h1 | ⟨h1, h2⟩
    · exact .inl h1
    · exact .inr (.inl h1)
    · exact .inr (.inr ⟨(h.own b k h1 h2).2.2, fun n hn hl hk => hn (h.disj n b k hl h1 hk h2), (h.own b k h1 h2).2.1⟩)
theorem none_has {g : Gh} {b k : Nat} {v : Value} (h : (g.set b v).has b k) : blkOf v = some k := by
  rcases h with h | ⟨p, u, h, _⟩
  · change blkOf (if b = b then v else g.val b) = some k at h
    rw [if_pos rfl] at h; exact h
  · change (if b = b then (fun _ => none) else g.inn b) p = some u at h
    rw [if_pos rfl] at h; cases h
theorem Sim.upd {X : Cx} {s : St} {a : Act} {w w' : World} {g : Gh} (h : Sim X s a w g) (b : Nat) (x : Blk) (v : Value) (heap' : List (Nat × Blk)) (row : Option Nat)
    (hh : ∀ n, hget heap' n = if n = b then some x else hget s.heap n) (hg : w.grownBy w' row)
    (hrow : ∀ k, row = some k → ¬ g.ok k ∧ (∀ n, n ≠ b → g.live n → ¬ g.has n k) ∧ (k < X.B → X.M k))
    (hv : g.live b → v = g.val b ∧ ∀ p, g.inn b p = none) (hb : ∀ k, blkOf v = some k → k < w'.heap.size ∧ (row = some k ∨ w.heap.size ≤ k))
    (hx : BlkRel X.B w' (g.set b v) b x) : Sim X ⟨s.env, heap'⟩ a w' (g.set b v) :=
  h.updI b x v _ heap' row hh hg hrow (fun hl => ⟨(hv hl).1, funext fun p => ((hv hl).2 p).symm⟩) (fun k hk => ⟨(hb k (none_has hk)).1, (hb k (none_has hk)).2.imp_right .inl⟩) hx (fun _ _ => rfl)
end Go.Proofs.YthgmnlfbgajchaaV
