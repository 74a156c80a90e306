/- Operations on values are run rightly: each step holds of the model's own run. Conditions: those that each theorem states. -/
/- A checked abstract run of Go functions: operations that touch no memory, or read it. -/
import Derived.Test.YthgmnlfbgajchaaVaiRel
import Derived.Laws.StructEq
import Derived.Laws.RangeString
import Derived.MapKept
namespace Go.Proofs.YthgmnlfbgajchaaV
set_option linter.unusedVariables false
set_option linter.unusedSimpArgs false
theorem chk_some {α : Type} {b : Bool} {x : Option α} {y : α} (h : chk b x = some y) : b = true ∧ x = some y := by
  cases b with
  | true => exact ⟨rfl, h⟩
  | false => cases h
theorem cond_some {α : Type} {b : Bool} {x : Option α} {y : α} (h : (bif b then x else none) = some y) : b = true ∧ x = some y := chk_some h
def nameOf : AV → List Nat
  | .own b => [b]
  | .ptr b _ => [b]
  | .elt b _ _ _ => [b]
  | .dp b _ => [b]
  | .de b _ _ _ => [b]
  | _ => []
/-- The names whose blocks an operation on values reads. -/
def objNames (s : St) : AV → List Nat
  | .own b => match hget s.heap b with
    | some (.obj _ _) => [b]
    | _ => []
  | _ => []
def reads (s : St) : Op → List Nat
  | .load _ y => nameOf (opd s y)
  | .convert _ _ y => nameOf (opd s y)
  | .lookup _ y _ _ => nameOf (opd s y)
  | .call c => match c.callee, c.args.toList with
    | .builtin .len, [y] => objNames s (opd s y)
    | _, _ => []
  | _ => []
/-- What no one writes, and what is named in 'T', is as it was. -/
def SameAt (w w' : World) (g : Gh) (T : List Nat) : Prop := ∀ k, (g.ok k ∨ ∃ n, n ∈ T ∧ g.live n ∧ g.has n k) → k < w.heap.size → w'.heap[k]? = w.heap[k]?
/-- The operation gives 'v' in each such world, and changes nothing. -/
def Yields (P : Program) (a : Act) (w : World) (g : Gh) (T : List Nat) (op : Op) (v : Value) : Prop := ∀ w', SameAt w w' g T → ∀ o : Oper, o.op = op → (execOp a.eval o).run P w' = .ok (.value v) w'
section
variable {P : Program} {α : Type} {X : Cx} {s : St} {a : Act} {w : World} {g : Gh} {x : α} {K : AV → Option α}
/-- What is to be shown of an operation on values. -/
def ValOk (P : Program) (a : Act) (w : World) (g : Gh) (T : List Nat) (op : Op) (K : AV → Option α) (x : α) : Prop := ∃ v cv, K v = some x ∧ Yields P a w g T op cv ∧ RV w g v cv
theorem ValOk.weak {T : List Nat} {op : Op} (h : ValOk P a w g [] op K x) : ValOk P a w g T op K x := by
  obtain ⟨v, cv, h1, h2, h3⟩ := h
  exact ⟨v, cv, h1, fun w' hw' => h2 w' fun k hk hlt => hw' k (hk.imp_right fun ⟨n, hn, _⟩ => (by simp at hn)) hlt, h3⟩
/-! ### Maps -/
theorem mapTy_some {t : TypeId} {ty : Ty} (h : mapTy P t = some ty) : ∃ k e, P.underlying t = some (.map k e) ∧ P.underlying k = some (.int .i64) ∧ ((∃ q, ty = .int q) ∨ ty = .bool) ∧ ∃ zv : Value, (∀ w : World, (zeroValue e).run P w = .ok zv w) ∧ ∀ (w : World) (g : Gh), RV w g (ty.av ty.zero) zv := by
  unfold mapTy at h
  split at h
  · rename_i k e hu
    split at h
    · rename_i q i hk he hi
      split at h
      · rename_i q' z hz
        split at h
        · rename_i hc
          obtain ⟨rfl, rfl⟩ := hc
          cases h
          exact ⟨k, e, hu, hk, .inl ⟨_, rfl⟩, _, fun w => by simp [zeroValue, typeInfo, hi, hz]; rfl, fun _ _ => rfl⟩
        · cases h
      · cases h
    · rename_i i hk he hi
      split at h
      · rename_i hz
        cases h
        exact ⟨k, e, hu, hk, .inr rfl, _, fun w => by simp [zeroValue, typeInfo, hi, hz]; rfl, fun _ _ => rfl⟩
      · cases h
    · cases h
  · cases h
theorem findNow_is {t : Ty} {i : Int} : ∀ {es : List MapEntry} {l : List (Int × t.T)} (n : Nat), MapIs t es l →
    (mfind l i = none ∧ Instr.findNow (.int .i64) (.int .i64 i) es n = some none ∧ ∀ (val : Value) (b : Nat) (y : t.T), (∀ (w : World) (g : Gh), RV w g (t.av y) val) → MapIs t (es ++ [⟨.int .i64 i, val, b⟩]) (mput l i y)) ∨
    ∃ (j : Nat) (v : t.T) (e : MapEntry), mfind l i = some v ∧ Instr.findNow (.int .i64) (.int .i64 i) es n = some (some (n + j, e.val)) ∧ es[j]? = some e ∧ e.key = .int .i64 i ∧ (∀ (w : World) (g : Gh), RV w g (t.av v) e.val) ∧ ∀ (val : Value) (y : t.T), (∀ (w : World) (g : Gh), RV w g (t.av y) val) → MapIs t (es.modify j fun e => { e with key := .int .i64 i, val := val }) (mput l i y)
  | [], [], n, _ => .inl ⟨rfl, rfl, fun val b y h => ⟨⟨rfl, h⟩, trivial⟩⟩
  | e :: es, x :: l, n, ⟨⟨h1, h2⟩, h3⟩ => by
    by_cases hx : i = x.1
    · refine .inr ⟨0, x.2, e, ?_, ?_, rfl, by rw [h1, hx], h2, fun val y hy => ?_⟩
      · simp [mfind, hx]
      · simp [Instr.findNow, Instr.sameNow, h1, hx]
      · show MapIs t ((e :: es).modify 0 _) (mput (x :: l) i y)
        rw [List.modify_zero_cons]
        simp only [mput, hx, beq_self_eq_true, cond_true]
        exact ⟨⟨rfl, hy⟩, h3⟩
    · have hb : (i == x.1) = false := by simpa using hx
      have e1 : mfind (x :: l) i = mfind l i := by simp [mfind, hb]
      have e2 : Instr.findNow (.int .i64) (.int .i64 i) (e :: es) n = Instr.findNow (.int .i64) (.int .i64 i) es (n + 1) := by simp [Instr.findNow, Instr.sameNow, h1, hb]
      have e3 : ∀ y, mput (x :: l) i y = x :: mput l i y := fun y => by simp [mput, hb]
      rcases findNow_is (n + 1) h3 with ⟨q1, q2, q3⟩ | ⟨j, v, e', q1, q2, q3, q4, q5, q6⟩
      · exact .inl ⟨e1.trans q1, e2.trans q2, fun val b y hy => by rw [e3]; exact ⟨⟨h1, h2⟩, q3 val b y hy⟩⟩
      · refine .inr ⟨j + 1, v, e', e1.trans q1, by rw [e2, q2, show n + 1 + j = n + (j + 1) by omega], by simpa using q3, q4, q5, fun val y hy => ?_⟩
        rw [e3, List.modify_succ_cons]
        exact ⟨⟨h1, h2⟩, q6 val y hy⟩
  | [], _ :: _, _, h => h.elim
  | _ :: _, [], _, h => h.elim
theorem MapIs.len {t : Ty} : ∀ {es : List MapEntry} {l : List (Int × t.T)}, MapIs t es l → es.length = l.length
  | [], [], _ => rfl
  | _ :: _, _ :: _, h => congrArg (· + 1) (MapIs.len h.2)
  | [], _ :: _, h => h.elim
  | _ :: _, [], h => h.elim
theorem mapAt_some {b : Nat} {ty : Ty} {l : List (Int × ty.T)} (h : mapAt s b ty = some l) : hget s.heap b = some (.obj (.map ty) l) := by
  unfold mapAt at h
  split at h
  · rename_i ty' l' hb
    split at h
    · rename_i e
      subst e
      cases h
      exact hb
    · cases h
  · cases h
theorem obj_at (h : Sim X s a w g) {b : Nat} {k : ObK} {y : k.T} (hb : hget s.heap b = some (.obj k y)) : ∃ r o, g.val b = refOf k r ∧ X.B ≤ r ∧ w.heap[r]? = some o ∧ ObjIs k y o ∧ g.live b ∧ g.has b r := by
  have hx : ObjAt X.B w (g.val b) k y := h.blk b _ hb
  obtain ⟨r, o, e1, e2, e3, e4⟩ := hx
  exact ⟨r, o, e1, e2, e3, e4, (h.live b).2 (by rw [hb]; rfl), .inl (by rw [e1]; exact refOf_blk k r)⟩
theorem block_lt {k : Nat} {o : Obj} (h : w.heap[k]? = some o) : k < w.heap.size := (Array.getElem?_eq_some_iff.1 h).1
theorem lookX_ok (h : Sim X s a w g) {t : TypeId} {y z : Operand} {ok : Bool} (he : lookX P s t (opd s y) (opd s z) ok K = some x) : ValOk P a w g (nameOf (opd s y)) (.lookup t y z ok) K x := by
  have hy := h.opd y
  have hz := h.opd z
  unfold lookX at he
  split at he
  · rename_i ty b i hm hyv hzv
    rw [hyv] at hy ⊢
    rw [hzv] at hz
    have hz : a.eval z = .int .i64 i := hz
    split at he
    · rename_i l hl
      obtain ⟨kt, et, hu, hk, _, zv, hzr, hzv'⟩ := mapTy_some hm
      obtain ⟨r, o, e1, e2, e3, ⟨es, clock, rfl, hmi⟩, hlive, hhas⟩ := obj_at h (mapAt_some hl)
      have hv : a.eval y = .map (some r) := hy.2.trans e1
      have hw : ∀ w', SameAt w w' g (nameOf (.own b)) → w'.heap[r]? = some (.map es clock) := fun w' hw' => (hw' r (.inr ⟨b, by simp [nameOf], hlive, hhas⟩) (block_lt e3)).trans e3
      have hck : ∀ (w' : World) (e : Bool), (Instr.checkKey e 10000 kt (.int .i64 i)).run P w' = .ok () w' := fun w' e => MapKept.run_checkKey hk (show MapKept.IsKey (.int .i64) (.int .i64 i) from rfl) e 9999
      have fin : ∀ (u : Value) (bb : Bool), (∀ w', SameAt w w' g (nameOf (.own b)) → (Instr.lookup t (.map (some r)) (.int .i64 i) ok).run P w' = .ok (if ok then .tuple #[u, .bool bb] else u) w') → (∀ (w : World) (g : Gh), RV w g (ty.av (mget ty.zero l i)) u) → mhas l i = bb → ValOk P a w g (nameOf (.own b)) (.lookup t y z ok) K x := fun u bb hrun hru hbb => by
        cases ok with
        | true =>
          rw [cond_true] at he
          exact ⟨_, _, he, fun w' hw' o ho => by simp only [execOp, ho, hv, hz]; rw [Sem.run_bind, hrun w' hw']; rfl, ⟨[u, .bool bb], rfl, hru w g, by rw [hbb]; exact rfl, trivial⟩⟩
        | false =>
          rw [cond_false] at he
          exact ⟨_, _, he, fun w' hw' o ho => by simp only [execOp, ho, hv, hz]; rw [Sem.run_bind, hrun w' hw']; rfl, hru w g⟩
      rcases findNow_is (i := i) 0 hmi with ⟨q1, q2, _⟩ | ⟨j, v, e, q1, q2, _, _, q5, _⟩
      · refine fin zv false (fun w' hw' => ?_) (by simp only [mget, q1, Option.getD_none]; exact hzv') (by simp [mhas, q1])
        simp [Instr.lookup, run_underlying hu, MapKept.run_getObj_map (hw w' hw'), hck, MapKept.run_findKey hk q2, hzr, Result.andThen]
      · refine fin e.val true (fun w' hw' => ?_) (by simp only [mget, q1, Option.getD_some]; exact q5) (by simp [mhas, q1])
        simp [Instr.lookup, run_underlying hu, MapKept.run_getObj_map (hw w' hw'), hck, MapKept.run_findKey hk q2, Result.andThen]
    · cases he
  · cases he
theorem lenMX_ok (h : Sim X s a w g) {t : TypeId} {y : Operand} {c : Call} (hc : c.callee = .builtin .len) (hca : c.args.toList = [y]) (hct : c.argTypes.toList = [t]) (he : lenMX P s t (opd s y) K = some x) : ValOk P a w g (objNames s (opd s y)) (.call c) K x := by
  have hy := h.opd y
  have ha : c.args = #[y] := by rw [← Array.toArray_toList (xs := c.args), hca]
  have hat : c.argTypes = #[t] := by rw [← Array.toArray_toList (xs := c.argTypes), hct]
  unfold lenMX at he
  split at he
  · rename_i kt et b hu hyv
    rw [hyv] at hy ⊢
    split at he
    · rename_i ty l hb
      obtain ⟨r, o, e1, e2, e3, ⟨es, clock, rfl, hmi⟩, hlive, hhas⟩ := obj_at h hb
      have hv : a.eval y = .map (some r) := hy.2.trans e1
      refine ⟨_, .int .i64 l.length, he, fun w' hw' o ho => ?_, rfl⟩
      have hw : w'.heap[r]? = some (.map es clock) := (hw' r (.inr ⟨b, by simp [objNames, hb], hlive, hhas⟩) (block_lt e3)).trans e3
      have hb' : ∀ t', (Builtin.len_ #[t] t' #[.map (some r)]).run P w' = .ok (.int .i64 l.length) w' := fun t' => by
        simp [Builtin.len_, run_underlying hu, MapKept.run_getObj_map hw, goInt, ← hmi.len, Result.andThen]
      simp [execOp, ho, resolve, hc, ha, hat, invoke, builtin, hv, hb']
    · cases he
  · cases he
/-! ### Deep rows -/
theorem DeepAt.own {B : Nat} {w : World} {inn : List Nat → Option Value} : ∀ {t : Ty} {e : Nat} {l : List t.T} {p : List Nat} {v : Value}, DeepAt B w inn t e l p v → ∃ inner : List Value, w.ownsRow B e t.sz v l.length inner
  | .slc _ _, _, _, _, _, ⟨⟨inner, h, _⟩, _⟩ => ⟨inner, h⟩
  | .int _, _, _, _, _, ⟨_, ⟨inner, h, _⟩, _⟩ => ⟨inner, h⟩
  | .bool, _, _, _, _, ⟨_, ⟨inner, h, _⟩, _⟩ => ⟨inner, h⟩
  | .str, _, _, _, _, ⟨_, ⟨inner, h, _⟩, _⟩ => ⟨inner, h⟩
  | .pr _ _, _, _, _, _, ⟨_, ⟨inner, h, _⟩, _⟩ => ⟨inner, h⟩
theorem DeepAt.leaf {B : Nat} {w : World} {inn : List Nat → Option Value} : ∀ {t : Ty} {e : Nat} {l : List t.T} {p : List Nat} {v : Value}, DeepAt B w inn t e l p v → t.isSlc = false → t.flat = true ∧ (∃ inner : List Value, w.ownsRow B e t.sz v l.length inner ∧ Reps w (fun _ => False) t l inner) ∧ ∀ i q, inn (p ++ i :: q) = none
  | .slc _ _, _, _, _, _, _, h => by cases h
  | .int _, _, _, _, _, h, _ => h
  | .bool, _, _, _, _, h, _ => h
  | .str, _, _, _, _, h, _ => h
  | .pr _ _, _, _, _, _, h, _ => h
theorem rdD_one {t : Ty} {l : List t.T} {i : Int} : rdD t l [i] = some ⟨t, l.getD i.toNat t.zero⟩ := by
  cases t <;> rfl
theorem rdD_slc {t : Ty} {l : List t.T} {i j : Int} {r : List Int} {y : (t' : Ty) × t'.T} (h : rdD t l (i :: j :: r) = some y) : t.isSlc = true := by
  cases t <;> first | rfl | (simp [rdD] at h)
theorem getD_lt {β : Type} {l : List β} {i : Nat} {z : β} (h : i < l.length) : l.getD i z = l[i] := by
  rw [List.getD_eq_getElem?_getD, List.getElem?_eq_getElem h]; rfl
theorem deep_row {B : Nat} {w : World} {inn : List Nat → Option Value} : ∀ {q : List Int} {t : Ty} {e : Nat} {l : List t.T} {p : List Nat} {v u : Value} {e' : Nat} {t' : Ty} {y : List t'.T}, DeepAt B w inn t e l p v → rdD t l q = some ⟨.slc e' t', y⟩ → inn (p ++ nats q) = some u → DeepAt B w inn t' e' y (p ++ nats q) u
  | [], t, _, _, _, _, _, _, _, _, _, h, _ => by cases t <;> cases h
  | [i], t, e, l, p, v, u, e', t', y, hd, h, hi => by
    rw [rdD_one] at h
    cases h
    obtain ⟨⟨inner, h1, h2⟩, h3⟩ := hd
    have hlt : i.toNat < l.length := by
      rcases Nat.lt_or_ge i.toNat l.length with h | h
      · exact h
      · have := h3 i.toNat [] h
        rw [show nats [i] = [i.toNat] from rfl] at hi
        rw [this] at hi; cases hi
    obtain ⟨u', q1, q2, q3⟩ := h2 i.toNat (l[i.toNat]) (List.getElem?_eq_getElem hlt)
    rw [show nats [i] = [i.toNat] from rfl] at hi ⊢
    rw [q2] at hi; cases hi
    have e6 := getD_lt (z := (Ty.slc e' t').zero) hlt
    rw [← e6] at q3
    exact q3
  | i :: j :: r, t, e, l, p, v, u, e', t', y, hd, h, hi => by
    have hs := rdD_slc h
    cases t <;> first | (cases hs; done) | skip
    rename_i e1 t1
    obtain ⟨⟨inner, h1, h2⟩, h3⟩ := hd
    have hlt : i.toNat < l.length := by
      rcases Nat.lt_or_ge i.toNat l.length with h | h
      · exact h
      · have := h3 i.toNat (nats (j :: r)) h
        rw [show nats (i :: j :: r) = i.toNat :: nats (j :: r) from rfl, this] at hi; cases hi
    obtain ⟨u', q1, q2, q3⟩ := h2 i.toNat (l[i.toNat]) (List.getElem?_eq_getElem hlt)
    have h : rdD t1 (List.getD (α := List t1.T) l i.toNat []) (j :: r) = some ⟨.slc e' t', y⟩ := h
    rw [getD_lt (β := List t1.T) hlt] at h
    have e5 : p ++ nats (i :: j :: r) = (p ++ [i.toNat]) ++ nats (j :: r) := by rw [List.append_assoc]; rfl
    rw [e5] at hi ⊢
    exact deep_row q3 h hi
theorem rdD_app : ∀ {q : List Int} {t : Ty} {l : List t.T} {i : Int} {t' : Ty} {y : t'.T}, q ≠ [] → rdD t l (q ++ [i]) = some ⟨t', y⟩ → ∃ (e' : Nat) (l' : List t'.T), rdD t l q = some ⟨.slc e' t', l'⟩ ∧ y = l'.getD i.toNat t'.zero
  | [], _, _, _, _, _, h, _ => absurd rfl h
  | [j], t, l, i, t', y, _, h => by
    have hs := rdD_slc (r := []) h
    cases t <;> first | (cases hs; done) | skip
    rename_i e1 t1
    have h : rdD t1 (List.getD (α := List t1.T) l j.toNat []) [i] = some ⟨t', y⟩ := h
    rw [rdD_one] at h
    cases h
    exact ⟨e1, _, rdD_one, rfl⟩
  | j :: k :: r, t, l, i, t', y, _, h => by
    have hs := rdD_slc (r := r ++ [i]) h
    cases t <;> first | (cases hs; done) | skip
    rename_i e1 t1
    have h : rdD t1 (List.getD (α := List t1.T) l j.toNat []) (k :: r ++ [i]) = some ⟨t', y⟩ := h
    exact rdD_app (q := k :: r) (by simp) h
/-- Where an element of a deep row lies. -/
theorem deep_elem {B : Nat} {b : Nat} {e : Nat} {t : Ty} {l : List t.T} (h : BlkRel B w g b (.deep e t l)) {q : List Int} {i : Int} {t' : Ty} {y : t'.T} (hr : rdD t l (q ++ [i]) = some ⟨t', y⟩) {k n c : Nat} (ha : g.at b (nats q) = some (.slice (some ⟨k, 0, none⟩) n c)) (h0 : 0 ≤ i) (h1 : i < n) :
    ∃ (e' : Nat) (l' : List t'.T), DeepAt B w (g.inn b) t' e' l' (nats q) (.slice (some ⟨k, 0, none⟩) n c) ∧ l'.length = n ∧ l'[i.toNat]? = some y ∧ g.has b k := by
  obtain ⟨hd, ho⟩ := h
  have fin : ∀ (e' : Nat) (l' : List t'.T), DeepAt B w (g.inn b) t' e' l' (nats q) (.slice (some ⟨k, 0, none⟩) n c) → y = l'.getD i.toNat t'.zero → l'.length = n ∧ l'[i.toNat]? = some y := fun e' l' hd hy => by
    obtain ⟨inner, _, ⟨hx, _⟩ | ⟨k', c', cur, hx, _⟩⟩ := hd.own
    · cases hx
    · cases hx
      refine ⟨rfl, ?_⟩
      rw [hy, List.getD_eq_getElem?_getD, List.getElem?_eq_getElem (by omega)]; rfl
  cases q with
  | nil =>
    rw [List.nil_append, rdD_one] at hr
    cases hr
    simp only [nats, List.map_nil, Gh.at, Option.some.injEq] at ha
    rw [ha] at hd
    have := fin e l hd rfl
    exact ⟨e, l, hd, this.1, this.2, .inl (by rw [ha]; rfl)⟩
  | cons j r =>
    obtain ⟨e', l', h2, h3⟩ := rdD_app (by simp) hr
    have ha : g.inn b (nats (j :: r)) = some (.slice (some ⟨k, 0, none⟩) n c) := ha
    have hd' := deep_row hd h2 (by rw [List.nil_append]; exact ha)
    rw [List.nil_append] at hd'
    have := fin e' l' hd' h3
    exact ⟨e', l', hd', this.1, this.2, .inr ⟨_, _, ha, rfl⟩⟩
theorem deep_own (h : Sim X s a w g) {b : Nat} {e : Nat} {t : Ty} {l : List t.T} (hb : hget s.heap b = some (.deep e t l)) : (l.length = 0 ∧ g.val b = .slice none 0 0) ∨ ∃ k c, g.val b = .slice (some ⟨k, 0, none⟩) l.length c := by
  obtain ⟨inner, _, hv | ⟨k, cap, cur, hv, _⟩⟩ := (h.blk b _ hb).1.own
  · exact .inl ⟨hv.2, hv.1⟩
  · exact .inr ⟨k, cap, hv⟩
theorem deep_inner (h : Sim X s a w g) {b : Nat} {p : List Int} {t : Ty} {l : List t.T} (hb : rowAtD s b p = some ⟨t, l⟩) {v : Value} (hv : g.inn b (nats p) = some v) : (l.length = 0 ∧ v = .slice none 0 0) ∨ ∃ k c, v = .slice (some ⟨k, 0, none⟩) l.length c := by
  unfold rowAtD at hb
  split at hb
  · rename_i e t0 l0 hh
    split at hb
    · rename_i e' t' y hr
      cases hb
      obtain ⟨inner, _, hv | ⟨k, cap, cur, hv, _⟩⟩ := (deep_row (h.blk b _ hh).1 hr (by rw [List.nil_append]; exact hv)).own
      · exact .inl ⟨hv.2, hv.1⟩
      · exact .inr ⟨k, cap, hv⟩
    · cases hb
  · cases hb
theorem eqK_is {j k : IntKind} (h : eqK j k = true) : j = k := by cases j <;> cases k <;> first | rfl | cases h
theorem binI_ok {op : BinOp} {k : IntKind} {m n : Int} (h : binI op k m n K = some x) (h1 : op ≠ .shl) (h2 : op ≠ .shr) : ∃ v cv, K v = some x ∧ RV w g v cv ∧ ∀ t w', (binOp op t (.int k m) (.int k n)).run P w' = .ok cv w' := by
  cases op <;> simp only [binI] at h <;> first
    | cases h
    | exact absurd rfl h1
    | exact absurd rfl h2
    | (obtain ⟨h0, h⟩ := chk_some h
       have h0' : ¬ n = 0 := by simpa using h0
       exact ⟨_, _, h, rfl, fun t w' => by simp [binOp, Op.intDiv, h0']⟩)
    | exact ⟨_, _, h, rfl, fun t w' => by simp [binOp, Op.intArith, Op.intBits, Op.intCmp]⟩
theorem run_eqGuard {op : BinOp} {t : TypeId} {y z : Operand} {u v : Value} (h : ∀ b, u ≠ .agg b) (h' : u ≠ .nilIface) (w : World) : (eqGuard op t y z u v).run P w = .ok () w := by
  cases u <;> first
    | exact absurd rfl (h _)
    | exact absurd rfl h'
    | (cases op <;> first | rfl | (cases v <;> rfl))
theorem binX_ok (h : Sim X s a w g) {op : BinOp} {t t' : TypeId} {y z : Operand} (he : binX op (opd s y) (opd s z) K = some x) : ValOk P a w g [] (.binOp op t y z t') K x := by
  have hy := h.opd y
  have hz := h.opd z
  generalize hyv : opd s y = av at he hy
  generalize hzv : opd s z = bv at he hz
  have go : ∀ (u v cv : Value) (r : AV), a.eval y = u → a.eval z = v → (∀ b, u ≠ .agg b) → u ≠ .nilIface → RV w g r cv → K r = some x → (∀ w', (binOp op t u v).run P w' = .ok cv w') → ValOk P a w g [] (.binOp op t y z t') K x := by
    intro u v cv r e1 e2 n1 n2 hr hk hb
    refine ⟨r, cv, hk, fun w' hw' o ho => ?_, hr⟩
    simp only [execOp, ho, e1, e2, Sem.run_bind, run_eqGuard n1 n2, Result.andThen_ok, hb, Sem.run_pure]
  unfold binX at he
  split at he
  · rename_i k m k' n
    change a.eval y = _ at hy
    change a.eval z = _ at hz
    split at he
    · obtain ⟨h0, he⟩ := chk_some he
      have h0' : ¬ n < 0 := by simpa using h0
      exact go _ _ _ _ hy hz (fun _ e => by cases e) (fun e => by cases e) (show RV w g (.int k _) (.int k _) from rfl) he (by simp [binOp, Op.shift, h0'])
    · obtain ⟨h0, he⟩ := chk_some he
      have h0' : ¬ n < 0 := by simpa using h0
      exact go _ _ _ _ hy hz (fun _ e => by cases e) (fun e => by cases e) (show RV w g (.int k _) (.int k _) from rfl) he (by simp [binOp, Op.shift, h0'])
    · rename_i n1 n2
      obtain ⟨hk, he'⟩ := cond_some he
      clear he
      cases eqK_is hk
      have he := he'
      obtain ⟨v, cv, h1, h2, h3⟩ := binI_ok (P := P) (w := w) (g := g) he n1 n2
      exact go _ _ _ _ hy hz (fun _ e => by cases e) (fun e => by cases e) h2 h1 (h3 t)
  · rename_i m n
    change a.eval y = _ at hy
    change a.eval z = _ at hz
    unfold binS at he
    split at he
    · obtain ⟨h0, he⟩ := chk_some he
      have h0' : ¬ ((m.size + n.size : Nat) : Int) > IntKind.i64.max := by
        have := of_decide_eq_true h0
        simp [IntKind.max, IntKind.signed, IntKind.bits]; omega
      exact go _ _ _ _ hy hz (fun _ e => by cases e) (fun e => by cases e) (show RV w g (.str _) (.string _) from rfl) he (fun w' => by simp only [binOp, Op.stringOp, if_neg h0']; rfl)
    · exact go _ _ _ _ hy hz (fun _ e => by cases e) (fun e => by cases e) (show RV w g (.bool _) (.bool _) from rfl) he (fun _ => rfl)
    · exact go _ _ _ _ hy hz (fun _ e => by cases e) (fun e => by cases e) (show RV w g (.bool _) (.bool _) from rfl) he (fun _ => rfl)
    · cases he
  · cases he
theorem isStruct_run {t : TypeId} {b : Bool} (h : isStruct P t = some b) (w : World) : (isAgg t).run P w = .ok b w := by
  unfold isStruct at h
  split at h
  · rename_i fs hu; cases h; simp [isAgg, run_underlying hu]
  · cases h
  · rename_i d h1 h2 hu
    cases h
    cases d <;> first | exact absurd rfl (h1 _) | exact absurd rfl (h2 _ _) | simp [isAgg, run_underlying hu]
  · cases h
theorem part_run {t : TypeId} {b : Bool} (hb : isStruct P t = some b) (hf : b = false) {cs : Array Value} {off : Nat} {v : Value} (hv : cs[off]? = some v) (w : World) : (part t cs off).run P w = .ok v w := by
  subst hf
  simp [part, isStruct_run hb, hv]
theorem eqF_ok {xs ys : List AV} {us vs : List Value} (hx : RVs w g xs us) (hy : RVs w g ys vs) (d : Nat) : ∀ {fs : List Field} {q : Bool}, eqF P xs ys fs = some q → ∀ w', (Op.eqFields (d + 1) us.toArray vs.toArray fs).run P w' = .ok q w'
  | [], q, he, w' => by simp only [eqF, Option.some.injEq] at he; subst he; rfl
  | f :: fs, q, he, w' => by
    have go : ∀ (u v : Value) (r s : Bool), (f.name == "_") = false → isStruct P f.type = some false → us[f.offset]? = some u → vs[f.offset]? = some v → (Op.equalIn (d + 1) f.type u v).run P w' = .ok r w' → eqF P xs ys fs = some s → q = (r && s) → (Op.eqFields (d + 1) us.toArray vs.toArray (f :: fs)).run P w' = .ok q w' := by
      intro u v r s hn hs h1 h2 h3 h4 h5
      have hn' : f.name ≠ "_" := by simpa using hn
      rw [Op.eqFields]
      simp only [if_pos hn', Sem.run_bind, part_run hs rfl (show us.toArray[f.offset]? = some u by simpa using h1) w', part_run hs rfl (show vs.toArray[f.offset]? = some v by simpa using h2) w', h3, Result.andThen_ok]
      cases r
      · simp [h5]
      · have := eqF_ok hx hy d h4 w'
        simpa [h5] using this
    simp only [eqF] at he
    split at he
    · rename_i k0 k a k' b s hu h1 h2 h3
      replace he := cond_some he
      obtain ⟨h0, he⟩ := he
      simp only [Bool.and_eq_true, Bool.not_eq_true'] at h0
      have hk := eqK_is h0.1
      subst hk
      obtain ⟨u, e1, r1⟩ := hx.nth h1
      obtain ⟨v, e2, r2⟩ := hy.nth h2
      have r1 : u = .int k a := r1
      have r2 : v = .int k b := r2
      subst r1; subst r2
      exact go _ _ (a == b) s h0.2 (by simp [isStruct, hu]) e1 e2 (by simp [Op.equalIn, run_underlying hu]) h3 (by cases he; rfl)
    · rename_i a b s hu h1 h2 h3
      replace he := cond_some he
      obtain ⟨h0, he⟩ := he
      simp only [Bool.not_eq_true'] at h0
      obtain ⟨u, e1, r1⟩ := hx.nth h1
      obtain ⟨v, e2, r2⟩ := hy.nth h2
      have r1 : u = .bool a := r1
      have r2 : v = .bool b := r2
      subst r1; subst r2
      exact go _ _ (a == b) s h0 (by simp [isStruct, hu]) e1 e2 (by simp [Op.equalIn, run_underlying hu]) h3 (by cases he; rfl)
    · rename_i a b s hu h1 h2 h3
      replace he := cond_some he
      obtain ⟨h0, he⟩ := he
      simp only [Bool.not_eq_true'] at h0
      obtain ⟨u, e1, r1⟩ := hx.nth h1
      obtain ⟨v, e2, r2⟩ := hy.nth h2
      have r1 : u = .string a := r1
      have r2 : v = .string b := r2
      subst r1; subst r2
      exact go _ _ (a.toList == b.toList) s h0 (by simp [isStruct, hu]) e1 e2 (by simp [Op.equalIn, run_underlying hu, beq_toListBytes]) h3 (by cases he; rfl)
    · cases he
theorem andX_some {p q : Option α} (h : andX p q = some x) : p = some x ∧ q = some x := by
  unfold andX at h
  split at h
  · rename_i e; rw [← e]; exact ⟨h, h⟩
  · cases h
/-- An own row's slice, and how long it is. -/
theorem own_row (h : Sim X s a w g) {b : Nat} {pin : Bool} {e : Nat} {t : Ty} {l : List t.T} (hb : hget s.heap b = some (.row pin e t l)) :
    (l.length = 0 ∧ g.val b = .slice none 0 0) ∨ ∃ k c, g.val b = .slice (some ⟨k, 0, none⟩) l.length c ∧ l.length ≤ c ∧ ∀ (j : Nat) y, l[j]? = some y → ∃ cc : List Value, cc.length = t.sz ∧ Rep w g.ok t y cc ∧ ∀ (i : Nat) u, cc[i]? = some u → w.cell? ((⟨k, 0, none⟩ : Addr).add (j * t.sz + i)) = some u := by
  obtain ⟨inner, ho, hr⟩ := h.blk b _ hb
  have ho' := ho
  obtain ⟨hlen, hv | ⟨k, cap, cur, hv, _, _, hcap, _⟩⟩ := ho'
  · exact .inl ⟨hv.2, hv.1⟩
  · refine .inr ⟨k, cap, hv, hcap, fun j y hj => ⟨_, (hr.get hj).len, hr.get hj, fun i u hu => ?_⟩⟩
    have hc := ho.cells (g := k) (by rw [hv]; rfl)
    refine hc (j * t.sz + i) u ?_
    rw [List.getElem?_take] at hu
    split at hu
    · rw [List.getElem?_drop] at hu; exact hu
    · cases hu
theorem nilX_ok {e neg n : Bool} (he : nilX e neg K = some x) (hn : e = false → n = false) : K (.bool (bif n then !neg else neg)) = some x := by
  unfold nilX at he
  cases e with
  | true =>
    obtain ⟨h1, h2⟩ := andX_some he
    cases n
    · exact h2
    · exact h1
  | false => rw [hn rfl]; exact he
theorem bin2X_ok (h : Sim X s a w g) {op : BinOp} {t t' : TypeId} {y z : Operand} (he : bin2X P s op t (opd s y) (opd s z) K = some x) : ValOk P a w g [] (.binOp op t y z t') K x := by
  unfold bin2X at he
  have hy := h.opd y
  have hz := h.opd z
  have eqn : ∀ (e : TypeId) (A : Option Addr) (n c : Nat), P.underlying t = some (.slice e) → ∀ w', (Op.equal t (.slice A n c) (.slice none 0 0)).run P w' = .ok A.isNone w' := fun e A n c hu w' => by
    have gen : ∀ d, (Op.equalIn (d + 1) t (.slice A n c) (.slice none 0 0)).run P w' = .ok A.isNone w' := fun d => by
      cases A <;> simp [Op.equalIn, run_underlying hu]
    exact gen 9999
  split at he
  · rename_i hy0 hz0
    rw [hy0] at hy; rw [hz0] at hz
    have hy : a.eval y = .slice none 0 0 := hy
    have hz : a.eval z = .slice none 0 0 := hz
    split at he
    · rename_i e hu
      exact ⟨_, _, he, fun w' hw' o ho => by simp [execOp, ho, hy, hz, eqGuard, binOp, eqn _ _ _ _ hu w'], rfl⟩
    · rename_i e hu
      exact ⟨_, _, he, fun w' hw' o ho => by simp [execOp, ho, hy, hz, eqGuard, binOp, eqn _ _ _ _ hu w'], rfl⟩
    · cases he
  · rename_i hz0 _
    rw [hz0] at hz
    have hz : a.eval z = .slice none 0 0 := hz
    -- what is known of the slice
    have shape : ∀ q, emptyOf s (opd s y) = some q → ∃ A n c, a.eval y = .slice A n c ∧ (q = false → A.isNone = false) := fun q hq => by
      generalize opd s y = yv at hq hy
      cases yv with
      | row e ty l =>
        simp only [emptyOf, Option.some.injEq] at hq
        obtain ⟨A, c, e1, _, _, e2⟩ := hy
        refine ⟨A, _, c, e1, fun hf => ?_⟩
        rcases e2 with rfl | ⟨ad, rfl, _⟩
        · rw [← hq] at hf; cases hf
        · rfl
      | own b =>
        simp only [emptyOf] at hq
        have hv : a.eval y = g.val b := hy.2
        split at hq
        · rename_i pin e ty l hb
          cases hq
          rcases own_row h hb with ⟨h3, h4⟩ | ⟨k, c, h3, _⟩
          · have : l = [] := List.eq_nil_of_length_eq_zero h3
            subst this
            exact ⟨none, 0, 0, by rw [hv, h4], fun hf => by cases hf⟩
          · exact ⟨_, _, c, by rw [hv, h3], fun _ => rfl⟩
        · rename_i e ty l hb
          cases hq
          rcases deep_own h hb with ⟨h3, h4⟩ | ⟨k, c, h3⟩
          · have : l = [] := List.eq_nil_of_length_eq_zero h3
            subst this
            exact ⟨none, 0, 0, by rw [hv, h4], fun hf => by cases hf⟩
          · exact ⟨_, _, c, by rw [hv, h3], fun _ => rfl⟩
        · cases hq
      | _ => cases hq
    split at he
    · rename_i e q hu hq
      obtain ⟨A, n, c, hy, hA⟩ := shape q hq
      refine ⟨_, _, nilX_ok he hA, fun w' hw' o ho => ?_, rfl⟩
      have := eqn _ A n c hu w'
      cases A <;> simp [execOp, ho, hy, hz, eqGuard, binOp, this]
    · rename_i e q hu hq
      obtain ⟨A, n, c, hy, hA⟩ := shape q hq
      refine ⟨_, _, nilX_ok he hA, fun w' hw' o ho => ?_, rfl⟩
      have := eqn _ A n c hu w'
      cases A <;> simp [execOp, ho, hy, hz, eqGuard, binOp, this]
    · cases he
  · rename_i xs ys hxs hys
    rw [hxs] at hy; rw [hys] at hz
    obtain ⟨us, e1, hy⟩ := hy
    obtain ⟨vs, e2, hz⟩ := hz
    unfold eqX at he
    split at he
    · rename_i fs hu
      replace he := chk_some he
      obtain ⟨h0, he⟩ := he
      simp only [Bool.and_eq_true, Bool.not_eq_true'] at h0
      have hfs : P.fieldsOf t = fs := by simp [Program.fieldsOf, hu]
      have eq : ∀ q, eqF P xs ys fs.toList = some q → ∀ w', (Op.equal t (.agg us.toArray) (.agg vs.toArray)).run P w' = .ok q w' := fun q hq w' => by
        show (Op.equalIn (9999 + 1) t _ _).run P w' = _
        rw [run_equalIn_struct w' 9999 t _ _ (by rw [hfs]; exact hu) h0.2, hfs]
        exact eqF_ok hy hz 9998 hq w'
      split at he
      · rename_i q hq
        refine ⟨_, _, he, fun w' hw' o ho => ?_, rfl⟩
        simp [execOp, ho, e1, e2, eqGuard, h0.1, binOp, eq _ hq w']
      · rename_i q hq
        refine ⟨_, _, he, fun w' hw' o ho => ?_, rfl⟩
        simp [execOp, ho, e1, e2, eqGuard, h0.1, binOp, eq _ hq w']
      · cases he
    · cases he
  · rename_i b c hb hc
    rw [hb] at hy; rw [hc] at hz
    have hy : a.eval y = .bool b := hy
    have hz : a.eval z = .bool c := hz
    split at he
    · rename_i hu
      refine ⟨_, _, he, fun w' hw' o ho => ?_, rfl⟩
      have eq : (Op.equal t (.bool b) (.bool c)).run P w' = .ok (b == c) w' := by
        have gen : ∀ d, (Op.equalIn (d + 1) t (.bool b) (.bool c)).run P w' = .ok (b == c) w' := fun d => by simp [Op.equalIn, run_underlying hu]
        exact gen 9999
      simp [execOp, ho, hy, hz, eqGuard, binOp, eq]
    · rename_i hu
      refine ⟨_, _, he, fun w' hw' o ho => ?_, rfl⟩
      have eq : (Op.equal t (.bool b) (.bool c)).run P w' = .ok (b == c) w' := by
        have gen : ∀ d, (Op.equalIn (d + 1) t (.bool b) (.bool c)).run P w' = .ok (b == c) w' := fun d => by simp [Op.equalIn, run_underlying hu]
        exact gen 9999
      simp [execOp, ho, hy, hz, eqGuard, binOp, eq]
    · cases he
  · exact binX_ok h he
theorem unX_ok (h : Sim X s a w g) {op : UnOp} {t : TypeId} {y : Operand} (he : unX op (opd s y) K = some x) : ValOk P a w g [] (.unOp op t y) K x := by
  have hy := h.opd y
  generalize opd s y = av at he hy
  unfold unX at he
  split at he
  · exact ⟨_, _, he, fun w' hw' o ho => by simp only [execOp, ho, show a.eval y = _ from hy, Op.unary, Sem.run_bind, Sem.run_pure, Result.andThen_ok], rfl⟩
  · exact ⟨_, _, he, fun w' hw' o ho => by simp only [execOp, ho, show a.eval y = _ from hy, Op.unary, Op.intArith, Sem.run_bind, Sem.run_pure, Result.andThen_ok], rfl⟩
  · cases he
theorem nilIX_ok (h : Sim X s a w g) {op : BinOp} {t t' : TypeId} {y z : Operand} (hz : isNilI z = true) (he : nilIX P op t (opd s y) K = some x) : ValOk P a w g [] (.binOp op t y z t') K x := by
  have hy := h.opd y
  obtain rfl : z = .const .nilIface := by
    unfold isNilI at hz
    split at hz
    · rfl
    · cases hz
  generalize opd s y = av at he hy
  unfold nilIX at he
  have hc : a.eval (.const .nilIface) = .nilIface := rfl
  split at he
  · rename_i m hu
    have hq : ∀ w', (Op.equal t .nilIface .nilIface).run P w' = .ok true w' := fun w' => by
      have gen : ∀ d, (Op.equalIn (d + 1) t .nilIface .nilIface).run P w' = .ok true w' := fun d => by simp [Op.equalIn, run_underlying hu]
      exact gen 9999
    exact ⟨_, .bool true, he, fun w' hw' o ho => by simp [execOp, ho, show a.eval y = _ from hy, hc, binOp, hq, eqGuard_nil_constR], rfl⟩
  · rename_i m hu
    have hq : ∀ w', (Op.equal t .nilIface .nilIface).run P w' = .ok true w' := fun w' => by
      have gen : ∀ d, (Op.equalIn (d + 1) t .nilIface .nilIface).run P w' = .ok true w' := fun d => by simp [Op.equalIn, run_underlying hu]
      exact gen 9999
    exact ⟨_, .bool false, he, fun w' hw' o ho => by simp [execOp, ho, show a.eval y = _ from hy, hc, binOp, hq, eqGuard_nil_constR], rfl⟩
  · cases he
theorem run_conv_row {src dst e : TypeId} (hs : P.underlying src = some (.slice e)) (he : P.underlying e = some (.int .u8)) (hd : P.underlying dst = some .string) (ad : Addr) (cap : Nat) (xs : List Int) (w' : World)
    (hcell : ∀ (j : Nat) y, xs[j]? = some y → w'.cell? (ad.add j) = some (.int .u8 y)) : (convert src dst (.slice (some ad) xs.length cap)).run P w' = .ok (.string (strOfNums xs)) w' := by
  have hl : (loadCells ad xs.length).run P w' = .ok (xs.map (Value.int .u8)).toArray w' := by
    have := run_loadCells_list (P := P) (w := w') ad (xs.map (Value.int .u8)) (fun j v hj => by
      rw [List.getElem?_map] at hj
      obtain ⟨y, hy, rfl⟩ := Option.map_eq_some_iff.1 hj
      exact hcell j y hy)
    simpa using this
  rw [run_convert_bytes_string w' src dst e _ xs.length cap hs he hd, run_bytesToString w' _ xs.length cap xs hl, foldl_push_bytes]
  simp [strOfNums, ByteArray.empty, ByteArray.emptyWithCapacity]
  rfl
theorem convX_ok (h : Sim X s a w g) {t t' : TypeId} {y : Operand} (he : convX P s t t' (opd s y) K = some x) : ValOk P a w g (nameOf (opd s y)) (.convert t t' y) K x := by
  have hy := h.opd y
  unfold convX at he
  split at he
  · rename_i d1 k k' n h1 h2 h3
    rw [h3] at hy
    exact ⟨_, _, he, fun w' hw' o ho => by simp [execOp, ho, show a.eval y = _ from hy, convert, run_underlying h1, run_underlying h2, Conv.intToInt], rfl⟩
  · rename_i s' h1 h2 h3
    rw [h3] at hy
    exact ⟨_, _, he, fun w' hw' o ho => by simp [execOp, ho, show a.eval y = _ from hy, convert, run_underlying h1, run_underlying h2], rfl⟩
  · rename_i e h1 h2
    split at he
    · rename_i e' l he8 hp
      have fin : ∀ v, a.eval y = v → (∀ w', SameAt w w' g (nameOf (opd s y)) → (convert t t' v).run P w' = .ok (.string (strOfNums l)) w') → ValOk P a w g (nameOf (opd s y)) (.convert t t' y) K x := fun v hv hrun =>
        ⟨_, .string (strOfNums l), he, fun w' hw' o ho => by simp [execOp, ho, hv, hrun w' hw'], rfl⟩
      cases hav : opd s y with
      | own b =>
        rw [hav] at hp hy fin
        unfold rowAs at hp
        simp only at hp
        split at hp
        · rename_i pin e2 t2 l2 hb
          cases hp
          have hv : a.eval y = g.val b := hy.2
          rcases own_row h hb with ⟨h3, h4⟩ | ⟨k, c, h3, _, h5⟩
          · have : l = [] := List.eq_nil_of_length_eq_zero h3
            subst this
            refine fin _ hv fun w' _ => ?_
            rw [h4, run_convert_bytes_nil w' t e h1 he8 0 0 t' h2]; rfl
          · refine fin _ hv fun w' hw' => ?_
            rw [h3]
            refine run_conv_row h1 he8 h2 _ c l w' fun j u hj => ?_
            obtain ⟨cc, hcl, hrep, hcell⟩ := h5 j u hj
            have hcc : cc = [.int .u8 u] := hrep
            subst hcc
            have := hcell 0 (.int .u8 u) rfl
            rw [show j * (Ty.int .u8).sz + 0 = j from by show j * 1 + 0 = j; omega] at this
            rw [← this]
            refine World.cell?_of_block ?_
            rw [add_block]
            refine hw' k (.inr ⟨b, by simp [nameOf], hy.1, .inl (by rw [h3]; rfl)⟩) ?_
            have := cell_lt this
            rwa [add_block] at this
        · cases hp
      | row e2 t2 l2 =>
        rw [hav] at hp hy fin
        cases hp
        obtain ⟨A, c, hv, _, _, h5⟩ := hy
        refine fin _ hv fun w' hw' => ?_
        rcases h5 with rfl | ⟨ad, rfl, hok, h5⟩
        · cases A with
          | none =>
            show (convert t t' (.slice none 0 c)).run P w' = _
            rw [run_convert_bytes_nil w' t e h1 he8 0 c t' h2]; rfl
          | some ad => exact run_conv_row h1 he8 h2 ad c [] w' fun j u hj => (by simp at hj)
        · refine run_conv_row h1 he8 h2 ad c l w' fun j u hj => ?_
          obtain ⟨cc, hcl, hrep, hcell⟩ := h5 j u hj
          have hcc : cc = [.int .u8 u] := hrep
          subst hcc
          have := hcell 0 (.int .u8 u) rfl
          rw [show j * (Ty.int .u8).sz + 0 = j from by show j * 1 + 0 = j; omega] at this
          rw [← this]
          refine World.cell?_of_block ?_
          rw [add_block]
          refine hw' _ (.inl hok) ?_
          have := cell_lt this
          rwa [add_block] at this
      | _ => rw [hav] at hp; cases hp
    · cases he
  · cases he
theorem pure1_ok (h : Sim X s a w g) {v : AV} {cv : Value} (hv : RV w g v cv) : (∀ b, v ≠ .own b) → RV w g (pure1 s v) cv := by
  intro hn
  cases v <;> first | exact hv | exact absurd rfl (hn _)
theorem lenX_ok (h : Sim X s a w g) {t : TypeId} {y : Operand} {c : Call} (hc : c.callee = .builtin .len) (hca : c.args.toList = [y]) (hct : c.argTypes.toList = [t]) (he : lenX P s t (opd s y) K = some x) : ValOk P a w g [] (.call c) K x := by
  have hy := h.opd y
  have ha : c.args = #[y] := by rw [← Array.toArray_toList (xs := c.args), hca]
  have hat : c.argTypes = #[t] := by rw [← Array.toArray_toList (xs := c.argTypes), hct]
  have go : ∀ (v cv : Value) (r : AV), a.eval y = v → RV w g r cv → K r = some x → (∀ w', (Builtin.len_ #[t] t #[v]).run P w' = .ok cv w') → ValOk P a w g [] (.call c) K x := by
    intro v cv r e1 hr hk hb
    refine ⟨r, cv, hk, fun w' hw' o ho => ?_, hr⟩
    have hb' : ∀ t', (Builtin.len_ #[t] t' #[v]).run P w' = .ok cv w' := fun t' => hb w'
    simp [execOp, ho, resolve, hc, ha, hat, invoke, builtin, e1, hb']
  unfold lenX at he
  split at he
  · rename_i d b p h1 h2
    cases hav : opd s y with
    | own b' =>
      rw [hav] at h2
      unfold pure1 at h2
      simp only at h2
      split at h2 <;> cases h2
    | dp b' p' =>
      rw [hav] at h2 hy
      cases h2
      split at he
      · rename_i t' l hb
        rcases deep_inner h hb hy.2 with ⟨h3, h4⟩ | ⟨k, c, h3⟩
        · exact go _ _ _ h4 (show RV w g (.int .i64 _) (.int .i64 _) from rfl) he (fun w' => by simp [Builtin.len_, run_underlying h1, goInt, h3])
        · exact go _ _ _ h3 (show RV w g (.int .i64 _) (.int .i64 _) from rfl) he (fun w' => by simp [Builtin.len_, run_underlying h1, goInt])
      · cases he
    | _ => rw [hav] at h2; cases h2
  · rename_i d e' t' l h1 h2
    cases hav : opd s y with
    | own b =>
      rw [hav] at h2 hy
      unfold pure1 at h2
      simp only at h2
      split at h2
      · rename_i pin e t l hb
        cases h2
        have hv : a.eval y = g.val b := hy.2
        rcases own_row h hb with ⟨h3, h4⟩ | ⟨k, c, h3, _⟩
        · exact go _ _ _ hv (show RV w g (.int .i64 _) (.int .i64 _) from rfl) he (fun w' => by rw [h4]; simp [Builtin.len_, run_underlying h1, goInt, h3])
        · exact go _ _ _ hv (show RV w g (.int .i64 _) (.int .i64 _) from rfl) he (fun w' => by rw [h3]; simp [Builtin.len_, run_underlying h1, goInt])
      · rename_i e t l hb
        cases h2
        have hv : a.eval y = g.val b := hy.2
        rcases deep_own h hb with ⟨h3, h4⟩ | ⟨k, c, h3⟩
        · exact go _ _ _ hv (show RV w g (.int .i64 _) (.int .i64 _) from rfl) he (fun w' => by rw [h4]; simp [Builtin.len_, run_underlying h1, goInt, h3])
        · exact go _ _ _ hv (show RV w g (.int .i64 _) (.int .i64 _) from rfl) he (fun w' => by rw [h3]; simp [Builtin.len_, run_underlying h1, goInt])
      · cases h2
    | row e t l =>
      rw [hav] at h2 hy
      cases h2
      obtain ⟨A, c', hv, _⟩ := hy
      exact go _ _ _ hv (show RV w g (.int .i64 _) (.int .i64 _) from rfl) he (fun w' => by simp [Builtin.len_, run_underlying h1, goInt])
    | _ => rw [hav] at h2; cases h2
  · rename_i d h1 h2
    cases hav : opd s y with
    | own b =>
      rw [hav] at h2
      unfold pure1 at h2
      simp only at h2
      split at h2 <;> cases h2
    | nilS =>
      rw [hav] at hy
      exact go _ _ _ (show a.eval y = _ from hy) (show RV w g (.int .i64 _) (.int .i64 _) from rfl) he (fun w' => by simp [Builtin.len_, run_underlying h1, goInt])
    | _ => rw [hav] at h2; cases h2
  · rename_i y' h1 h2
    cases hav : opd s y with
    | own b =>
      rw [hav] at h2
      unfold pure1 at h2
      simp only at h2
      split at h2 <;> cases h2
    | str z =>
      rw [hav] at hy h2
      cases h2
      exact go _ _ _ (show a.eval y = _ from hy) (show RV w g (.int .i64 _) (.int .i64 _) from rfl) he (fun w' => by simp [Builtin.len_, run_underlying h1, goInt])
    | _ => rw [hav] at h2; cases h2
  · cases he
theorem minX_ok (h : Sim X s a w g) {y z : Operand} {c : Call} (hc : c.callee = .builtin .min) (hca : c.args.toList = [y, z]) (he : min2X (opd s y) (opd s z) K = some x) : ValOk P a w g [] (.call c) K x := by
  have hy := h.opd y
  have hz := h.opd z
  have ha : c.args = #[y, z] := by rw [← Array.toArray_toList (xs := c.args), hca]
  generalize opd s y = av at he hy
  generalize opd s z = bv at he hz
  unfold min2X at he
  split at he
  · exact ⟨_, _, he, fun w' hw' o ho => by simp [execOp, ho, resolve, hc, ha, invoke, builtin, show a.eval y = _ from hy, show a.eval z = _ from hz, Builtin.min_, Builtin.min2], rfl⟩
  · cases he
theorem min3X_ok (h : Sim X s a w g) {y z u : Operand} {c : Call} (hc : c.callee = .builtin .min) (hca : c.args.toList = [y, z, u]) (he : min3X (opd s y) (opd s z) (opd s u) K = some x) : ValOk P a w g [] (.call c) K x := by
  have hy := h.opd y
  have hz := h.opd z
  have hu := h.opd u
  have ha : c.args = #[y, z, u] := by rw [← Array.toArray_toList (xs := c.args), hca]
  generalize opd s y = av at he hy
  generalize opd s z = bv at he hz
  generalize opd s u = cv at he hu
  unfold min3X at he
  split at he
  · exact ⟨_, _, he, fun w' hw' o ho => by simp [execOp, ho, resolve, hc, ha, invoke, builtin, show a.eval y = _ from hy, show a.eval z = _ from hz, show a.eval u = _ from hu, Builtin.min_, Builtin.min2], rfl⟩
  · cases he
theorem maxX_ok (h : Sim X s a w g) {y z : Operand} {c : Call} (hc : c.callee = .builtin .max) (hca : c.args.toList = [y, z]) (he : max2X (opd s y) (opd s z) K = some x) : ValOk P a w g [] (.call c) K x := by
  have hy := h.opd y
  have hz := h.opd z
  have ha : c.args = #[y, z] := by rw [← Array.toArray_toList (xs := c.args), hca]
  generalize opd s y = av at he hy
  generalize opd s z = bv at he hz
  unfold max2X at he
  split at he
  · exact ⟨_, _, he, fun w' hw' o ho => by simp [execOp, ho, resolve, hc, ha, invoke, builtin, show a.eval y = _ from hy, show a.eval z = _ from hz, Builtin.max_, Builtin.max2], rfl⟩
  · cases he
/-! ### Structs, addresses, loads -/
theorem nth_get {β : Type} : ∀ {l : List β} {n : Nat} {y : β}, nth l n = some y → l[n]? = some y
  | _ :: _, 0, _, h => by simpa [YthgmnlfbgajchaaV.nth] using h
  | _ :: r, n + 1, _, h => by simp only [YthgmnlfbgajchaaV.nth] at h; simpa using nth_get h
  | [], _, _, h => by simp [YthgmnlfbgajchaaV.nth] at h
theorem fieldX_some {t : TypeId} {f : Nat} {K' : Nat → TypeId → Nat → Option α} (h : fieldX P t f K' = some x) : ∃ fs fld i, P.underlying t = some (.struct fs) ∧ fs[f]? = some fld ∧ P.info? fld.type = some i ∧ i.size ≠ 0 ∧ K' fld.offset fld.type i.size = some x := by
  unfold fieldX at h
  split at h
  · rename_i fs hu
    split at h
    · rename_i fld hf
      split at h
      · rename_i i hi
        obtain ⟨h0, h⟩ := chk_some h
        refine ⟨fs, fld, i, hu, by simpa using hf, hi, ?_, h⟩
        intro e; rw [e] at h0; cases h0
      · cases h
    · cases h
  · cases h
theorem info_size {t : TypeId} {i : TypeInfo} (h : P.info? t = some i) (w : World) : (sizeOf t).run P w = .ok i.size w := by simp [sizeOf, typeInfo, h]
theorem getX_ok (h : Sim X s a w g) {t : TypeId} {y : Operand} {f : Nat} (he : getX P t (opd s y) f K = some x) : ValOk P a w g [] (.field t y f) K x := by
  have hy := h.opd y
  generalize opd s y = av at he hy
  unfold getX at he
  split at he
  · obtain ⟨cs, hv, hr⟩ := hy
    obtain ⟨fs, fld, i, hu, hf, hi, h0, he⟩ := fieldX_some he
    split at he
    · rename_i hst
      refine ⟨_, .agg ((cs.drop fld.offset).take i.size).toArray, he, fun w' hw' o ho => ?_, ⟨_, rfl, hr.drop.take⟩⟩
      simp [execOp, ho, Instr.field, run_underlying hu, hf, hv, asAgg, part, isStruct_run hst, info_size hi]
    · rename_i hst
      split at he
      · rename_i v hn
        obtain ⟨u, hu', hr'⟩ := hr.nth hn
        refine ⟨_, u, he, fun w' hw' o ho => ?_, hr'⟩
        simp [execOp, ho, Instr.field, run_underlying hu, hf, hv, asAgg, part, isStruct_run hst, hu']
      · cases he
    · cases he
  · cases he
theorem faX_ok (h : Sim X s a w g) {t : TypeId} {y : Operand} {f : Nat} (he : faX P t (opd s y) f K = some x) : ValOk P a w g [] (.fieldAddr t y f) K x := by
  have hy := h.opd y
  generalize opd s y = av at he hy
  unfold faX at he
  obtain ⟨fs, fld, i, hu, hf, hi, h0, he⟩ := fieldX_some he
  have go : ∀ (ad : Addr) (r : AV), a.eval y = .pointer (some ad) → RV w g r (.pointer (some (ad.add fld.offset))) → K r = some x → ValOk P a w g [] (.fieldAddr t y f) K x := by
    intro ad r e hr hk
    refine ⟨r, _, hk, fun w' hw' o ho => ?_, hr⟩
    simp [execOp, ho, Instr.fieldAt, run_underlying hu, hf, e, Instr.sureAddr, fieldPlace, info_size hi, h0]
  cases av with
  | ptr b o =>
    obtain ⟨hl, k, h1, h2⟩ := hy
    exact go _ (.ptr b (o + fld.offset)) h2 ⟨hl, k, h1, by rw [add_add]⟩ he
  | rptr vs o =>
    obtain ⟨k, cs, e, h1, h2, h3, h4⟩ := hy
    exact go _ (.rptr vs (o + fld.offset)) h4 ⟨k, cs, e, h1, h2, h3, by rw [add_add]⟩ he
  | elt b i' sz o =>
    obtain ⟨hl, k, n, c, h1, h2, h3, h4⟩ := hy
    exact go _ (.elt b i' sz (o + fld.offset)) h4 ⟨hl, k, n, c, h1, h2, h3, by rw [add_add, Nat.add_assoc]⟩ he
  | de b p sz o =>
    obtain ⟨hl, q, i', k, n, c, h1, h2, h3, h4, h5⟩ := hy
    exact go _ (.de b p sz (o + fld.offset)) h5 ⟨hl, q, i', k, n, c, h1, h2, h3, h4, by rw [add_add, Nat.add_assoc]⟩ he
  | relt e ty l i' o =>
    obtain ⟨h1, h2, ad, c, h3, h4⟩ := hy
    exact go _ (.relt e ty l i' (o + fld.offset)) h4 ⟨h1, h2, ad, c, h3, by rw [add_add, Nat.add_assoc]⟩ he
  | _ => cases he
theorem iaX_ok (h : Sim X s a w g) {t : TypeId} {y z : Operand} (he : iaX P s t (opd s y) (opd s z) K = some x) : ValOk P a w g [] (.indexAddr t y z) K x := by
  have hy := h.opd y
  have hz := h.opd z
  generalize opd s y = av at he hy
  generalize opd s z = bv at he hz
  unfold iaX at he
  split at he
  · rename_i e hu
    have go : ∀ (i : TypeInfo) (k : IntKind) (j : Int) (ad : Addr) (n c : Nat) (r : AV), P.info? e = some i → a.eval y = .slice (some ad) n c → a.eval z = .int k j → 0 ≤ j → j < n → RV w g r (.pointer (some (ad.add (j.toNat * i.size)))) → K r = some x → ValOk P a w g [] (.indexAddr t y z) K x := by
      intro i k j ad n c r hi e1 e2 h0 h1 hr hk
      refine ⟨r, _, hk, fun w' hw' o ho => ?_, hr⟩
      simp [execOp, ho, Instr.indexAt, run_underlying hu, e1, e2, asIntOf, info_size hi, h0, h1]
    split at he
    · rename_i i b k j hi
      split at he
      · rename_i pin e' ty l hb
        obtain ⟨h1, he⟩ := chk_some he
        obtain ⟨h2, he⟩ := chk_some he
        obtain ⟨h3, he⟩ := chk_some he
        have h1 : i.size = ty.sz := Nat.eq_of_beq_eq_true h1
        have h2 := of_decide_eq_true h2
        have h3 := of_decide_eq_true h3
        rcases own_row h hb with ⟨h4, _⟩ | ⟨q, c, h4, _⟩
        · omega
        · exact go i k j _ _ _ (.elt b j ty.sz 0) hi (by rw [show a.eval y = _ from hy.2, h4]) hz h2 h3 ⟨hy.1, q, _, c, h4, h2, h3, by rw [h1, Nat.add_zero]⟩ he
      · rename_i e' ty l hb
        obtain ⟨h1, he⟩ := chk_some he
        obtain ⟨h2, he⟩ := chk_some he
        obtain ⟨h3, he⟩ := chk_some he
        have h1 : i.size = ty.sz := Nat.eq_of_beq_eq_true h1
        have h2 := of_decide_eq_true h2
        have h3 := of_decide_eq_true h3
        rcases deep_own h hb with ⟨h4, _⟩ | ⟨q, c, h4⟩
        · omega
        · exact go i k j _ _ _ (.de b [j] ty.sz 0) hi (by rw [show a.eval y = _ from hy.2, h4]) hz h2 h3 ⟨hy.1, [], j, q, _, c, rfl, (by show some (g.val b) = _; rw [h4]), h2, h3, by rw [h1, Nat.add_zero]⟩ he
      · cases he
    · rename_i i b p k j hi
      split at he
      · rename_i ty l hb
        obtain ⟨h1, he⟩ := chk_some he
        obtain ⟨h2, he⟩ := chk_some he
        obtain ⟨h3, he⟩ := chk_some he
        have h1 : i.size = ty.sz := Nat.eq_of_beq_eq_true h1
        have h2 := of_decide_eq_true h2
        have h3 := of_decide_eq_true h3
        rcases deep_inner h hb hy.2 with ⟨h4, _⟩ | ⟨q, c, h4⟩
        · omega
        · have hp : nats p ≠ [] := by
            intro hp
            have hp : p = [] := by simpa [nats] using hp
            subst hp
            unfold rowAtD at hb
            split at hb
            · rename_i t0 l0 _
              cases t0 <;> simp [rdD] at hb
            · cases hb
          exact go i k j _ _ _ (.de b (p ++ [j]) ty.sz 0) hi h4 hz h2 h3 ⟨hy.1, p, j, q, _, c, rfl, (by
            have := hy.2
            rw [h4] at this
            cases hq : nats p with
            | nil => exact absurd hq hp
            | cons _ _ => rw [hq] at this; exact this), h2, h3, by rw [h1, Nat.add_zero]⟩ he
      · cases he
    · rename_i i e' ty l k j hi
      obtain ⟨h1, he⟩ := chk_some he
      obtain ⟨h2, he⟩ := chk_some he
      obtain ⟨h3, he⟩ := chk_some he
      have h1 : i.size = ty.sz := Nat.eq_of_beq_eq_true h1
      have h2 := of_decide_eq_true h2
      have h3 := of_decide_eq_true h3
      obtain ⟨A, c, hv, hc, hz0, hr⟩ := hy
      rcases hr with rfl | ⟨ad, rfl, hok, hcells⟩
      · simp at h3; omega
      · exact go i k j _ _ _ (.relt e' ty l j 0) hi hv hz h2 h3 ⟨h2, h3, ad, c, ⟨_, c, rfl, hc, hz0, .inr ⟨ad, rfl, hok, hcells⟩⟩, by rw [h1, Nat.add_zero]⟩ he
    · cases he
  · cases he
theorem ixX_ok (h : Sim X s a w g) {t : TypeId} {y z : Operand} (he : ixX P t (opd s y) (opd s z) K = some x) : ValOk P a w g [] (.index t y z) K x := by
  have hy := h.opd y
  have hz := h.opd z
  generalize opd s y = av at he hy
  generalize opd s z = bv at he hz
  unfold ixX at he
  split at he
  · rename_i b k i hu
    obtain ⟨h2, he⟩ := chk_some he
    obtain ⟨h3, he⟩ := chk_some he
    have h2 := of_decide_eq_true h2
    have h3 := of_decide_eq_true h3
    have hlt : i.toNat < b.size := by omega
    refine ⟨_, _, he, fun w' hw' o ho => ?_, rfl⟩
    have e : b[i.toNat]? = some b[i.toNat] := by simp [hlt]
    simp only [execOp, ho, Instr.index, show a.eval y = _ from hy, show a.eval z = _ from hz, asIntOf, Sem.run_bind, Sem.run_pure, Result.andThen_ok, run_underlying hu, if_pos h2, e]
    congr 3
    have hd : b.data.toList.getD i.toNat 0 = b[i.toNat] := by
      rw [List.getD_eq_getElem?_getD, List.getElem?_eq_getElem (by simpa using hlt)]; rfl
    simp only [byteAt, hd]
  · cases he
theorem Rep.rvs : ∀ {t : Ty} {y : t.T} {cs : List Value}, Rep w g.ok t y cs → RVs w g (t.cells y) cs
  | .int _, _, _, h => by rw [show _ = _ from h]; exact ⟨rfl, trivial⟩
  | .bool, _, _, h => by rw [show _ = _ from h]; exact ⟨rfl, trivial⟩
  | .str, _, _, h => by rw [show _ = _ from h]; exact ⟨rfl, trivial⟩
  | .slc _ _, _, _, ⟨_, h, hr⟩ => by rw [h]; exact ⟨hr, trivial⟩
  | .pr _ _, _, _, ⟨_, _, h, h1, h2⟩ => by rw [h]; exact h1.rvs.app h2.rvs
theorem rdT_get {t : Ty} {l : List t.T} {i : Int} (h0 : 0 ≤ i) (h1 : i < l.length) : l[i.toNat]? = some (rdT t l i) := by
  unfold rdT; rw [List.getD_eq_getElem?_getD, List.getElem?_eq_getElem (by omega)]; rfl
theorem ad_plain (b off i : Nat) : (⟨b, off, none⟩ : Addr).add i = ⟨b, off + i, none⟩ := by
  unfold Addr.add
  split <;> simp_all
theorem cellsAt_ok (h : Sim X s a w g) {v : AV} {cv : Value} (hv : RV w g v cv) {as : List AV} (he : cellsAt s v = some as) : ∃ (ad : Addr) (cs : List Value), cv = .pointer (some ad) ∧ RVs w g as cs ∧ ∀ w', SameAt w w' g (nameOf v) → ∀ (i : Nat) u, cs[i]? = some u → w'.cell? (ad.add i) = some u := by
  have box : ∀ (k : Nat) (cs : List Value) (e : TypeId) (o : Nat), w.heap[k]? = some (.cells cs.toArray e (0, 0)) → ∀ (i : Nat) u, (cs.drop o)[i]? = some u → w.cell? (((⟨k, 0, none⟩ : Addr).add o).add i) = some u := by
    intro k cs e o hk i u hu
    rw [add_add, ad_plain, cell_of_row w k _ _ e (0, 0) hk]
    rw [List.getElem?_drop] at hu
    simpa using hu
  -- the block is as it was
  have same : ∀ (ad : Addr) (cs : List Value), (g.ok ad.block ∨ ∃ n, n ∈ nameOf v ∧ g.live n ∧ g.has n ad.block) → (∀ (i : Nat) u, cs[i]? = some u → w.cell? (ad.add i) = some u) → ∀ w', SameAt w w' g (nameOf v) → ∀ (i : Nat) u, cs[i]? = some u → w'.cell? (ad.add i) = some u := fun ad cs hb hc w' hw i u hu => by
    have h1 := hc i u hu
    have hlt := World.block_lt_of_cell? w _ h1
    rw [add_block] at hlt
    rw [← h1]
    exact World.cell?_of_block (by rw [add_block]; exact hw ad.block hb hlt)
  cases v with
  | ptr b o =>
    simp only [cellsAt] at he
    split at he
    · rename_i pin cs hb
      cases he
      obtain ⟨k, cells, e, h1, _, h2, h3⟩ := h.blk _ _ hb
      obtain ⟨hl, k', h4, h5⟩ := hv
      rw [h1] at h4; cases h4
      exact ⟨_, cells.drop o, h5, h3.drop, same _ _ (.inr ⟨b, by simp [nameOf], hl, .inl (by rw [h1, add_block]; rfl)⟩) (box k cells e o h2)⟩
    · cases he
  | elt b i sz o =>
    simp only [cellsAt] at he
    split at he
    · rename_i pin e t l hb
      obtain ⟨hsz, he⟩ := cond_some he
      have hsz : sz = t.sz := Nat.eq_of_beq_eq_true hsz
      cases he
      obtain ⟨hl, k', n, c, h4, h5, h6, h7⟩ := hv
      rcases own_row h hb with ⟨h8, h9⟩ | ⟨k, c', h8, _, h9⟩
      · rw [h9] at h4; cases h4
      · rw [h8] at h4; cases h4
        obtain ⟨cc, e1, e2, e3⟩ := h9 i.toNat _ (rdT_get h5 h6)
        refine ⟨_, cc.drop o, h7, e2.rvs.drop, same _ _ (.inr ⟨b, by simp [nameOf], hl, .inl (by rw [h8, add_block]; rfl)⟩) fun j u hu => ?_⟩
        rw [List.getElem?_drop] at hu
        rw [add_add, Nat.add_assoc, hsz]
        exact e3 (o + j) u hu
    · cases he
  | de b p sz o =>
    simp only [cellsAt] at he
    split at he
    · rename_i e t l hb
      obtain ⟨hl, q, i, k, n, c, rfl, h4, h5, h6, h7⟩ := hv
      split at he
      · rename_i e2 t2 y hr
        obtain ⟨h0, he⟩ := cond_some he
        simp only [Bool.and_eq_true] at h0
        have h01 : o = 0 := Nat.eq_of_beq_eq_true h0.1
        have h02 : sz = 1 := Nat.eq_of_beq_eq_true h0.2
        subst h01; subst h02
        cases he
        obtain ⟨e', l', hd, h8, h9, h10⟩ := deep_elem (h.blk b _ hb) hr h4 h5 h6
        obtain ⟨⟨inner, ho, hin⟩, _⟩ := hd
        obtain ⟨u, q1, q2, _⟩ := hin i.toNat y h9
        refine ⟨_, [u], h7, ⟨⟨hl, by rw [show nats (q ++ [i]) = nats q ++ [i.toNat] by simp [nats]]; exact q2⟩, trivial⟩, same _ _ (.inr ⟨b, by simp [nameOf], hl, by rw [add_block]; exact h10⟩) fun j z hz => ?_⟩
        cases j with
        | succ j => simp at hz
        | zero =>
          simp only [List.getElem?_cons_zero, Option.some.injEq] at hz
          subst hz
          rw [add_add, Nat.mul_one]
          exact ho.cells (g := k) rfl i.toNat u q1
      · rename_i t' y hne hr
        obtain ⟨hsz, he⟩ := cond_some he
        have hsz : sz = t'.sz := Nat.eq_of_beq_eq_true hsz
        cases he
        obtain ⟨e', l', hd, h8, h9, h10⟩ := deep_elem (h.blk b _ hb) hr h4 h5 h6
        have hns : t'.isSlc = false := by
          cases t' <;> first | rfl | exact (hne _ _ _ rfl HEq.rfl).elim
        obtain ⟨hf, ⟨inner, ho, hreps⟩, _⟩ := hd.leaf hns
        have hrep : Rep w g.ok t' y ((inner.drop (i.toNat * t'.sz)).take t'.sz) := (hreps.get h9).none hf
        refine ⟨_, (((inner.drop (i.toNat * t'.sz)).take t'.sz)).drop o, h7, hrep.rvs.drop, same _ _ (.inr ⟨b, by simp [nameOf], hl, by rw [add_block]; exact h10⟩) fun j u hu => ?_⟩
        rw [List.getElem?_drop, List.getElem?_take] at hu
        split at hu
        · rw [List.getElem?_drop] at hu
          rw [add_add, Nat.add_assoc, hsz]
          exact ho.cells (g := k) rfl _ u hu
        · cases hu
      · cases he
    · cases he
  | relt e t l i o =>
    simp only [cellsAt] at he
    cases he
    obtain ⟨h1, h2, ad, c, ⟨A, c', e1, e2, _, e3⟩, h4⟩ := hv
    cases e1
    rcases e3 with rfl | ⟨ad', e4, hok, hc⟩
    · simp at h2; omega
    · cases e4
      obtain ⟨cc, e5, e6, e7⟩ := hc i.toNat _ (rdT_get h1 h2)
      refine ⟨_, cc.drop o, h4, e6.rvs.drop, same _ _ (.inl (by rw [add_block]; exact hok)) fun j u hu => ?_⟩
      rw [List.getElem?_drop] at hu
      rw [add_add, Nat.add_assoc]
      exact e7 (o + j) u hu
  | rptr cs o =>
    simp only [cellsAt] at he
    cases he
    obtain ⟨k, cells, e, h1, h2, h3, h4⟩ := hv
    exact ⟨_, cells.drop o, h4, h3.drop, same _ _ (.inl (by rw [add_block]; exact h1)) (box k cells e o h2)⟩
  | _ => cases he
theorem loadX_ok (h : Sim X s a w g) {t : TypeId} {y : Operand} (he : loadX P s t (opd s y) K = some x) : ValOk P a w g (nameOf (opd s y)) (.load t y) K x := by
  have hy := h.opd y
  unfold loadX at he
  split at he
  · rename_i i as hst hi hc
    obtain ⟨h0, he⟩ := chk_some he
    obtain ⟨ad, cs, e1, hr, hcell⟩ := cellsAt_ok h hy hc
    have hl := hr.len
    have h0 : i.size ≤ as.length := Nat.le_of_ble_eq_true h0
    refine ⟨_, .agg (cs.take i.size).toArray, he, fun w' hw' o ho => ?_, ⟨_, rfl, hr.take⟩⟩
    have hrun := run_loadCells_list (P := P) (w := w') ad (cs.take i.size) (fun j u hu => hcell w' hw' j u (by
      rw [List.getElem?_take] at hu
      split at hu
      · exact hu
      · cases hu))
    rw [show (cs.take i.size).length = i.size by rw [List.length_take]; omega] at hrun
    simp [execOp, ho, Instr.loadAt, e1, Instr.sureAddr, loadVar, isStruct_run hst, info_size hi, hrun]
  · rename_i i c as hst hi hc
    obtain ⟨ad, cs, e1, hr, hcell⟩ := cellsAt_ok h hy hc
    cases cs with
    | nil => exact hr.elim
    | cons u cs =>
      refine ⟨_, u, he, fun w' hw' o ho => ?_, hr.1⟩
      have h0 : w'.cell? ad = some u := by have := hcell w' hw' 0 u rfl; rw [show ad.add 0 = ad from rfl] at this; exact this
      simp [execOp, ho, Instr.loadAt, e1, Instr.sureAddr, loadVar, isStruct_run hst, h0]
  · cases he
/-! ### Slices, structs, functions -/
theorem RowAt.cut {β : Type} {R : β → List Value → Prop} {sz : Nat} {ok : Nat → Prop} {l : List β} {A : Option Addr} {c : Nat} (h : RowAt R sz w ok l (.slice A l.length c)) (p q : Nat) (hpq : p ≤ q) (hq : q ≤ l.length) :
    RowAt R sz w ok ((l.take q).drop p) (.slice (if c = p then A else A.map (·.add (p * sz))) (q - p) (c - p)) := by
  obtain ⟨A', c', e, hc, hz0, hr⟩ := h
  cases e
  have hlen : ((l.take q).drop p).length = q - p := by rw [List.length_drop, List.length_take]; omega
  refine ⟨_, _, by rw [hlen], by rw [hlen]; omega, ?_, ?_⟩
  · intro e
    split at e
    · omega
    · cases A with
      | none => have := hz0 rfl; omega
      | some ad => cases e
  by_cases h0 : q - p = 0
  · exact .inl (List.eq_nil_of_length_eq_zero (by omega))
  · rcases hr with rfl | ⟨ad, rfl, hok, hcell⟩
    · simp at hq; omega
    · refine .inr ⟨ad.add (p * sz), by rw [if_neg (by omega)]; rfl, by rw [add_block]; exact hok, fun j y hj => ?_⟩
      rw [List.getElem?_drop, List.getElem?_take] at hj
      split at hj
      · obtain ⟨cc, h1, h2, h3⟩ := hcell (p + j) y hj
        refine ⟨cc, h1, h2, fun i u hu => ?_⟩
        rw [add_add, ← Nat.add_assoc, ← Nat.add_mul]
        exact h3 i u hu
      · cases hj
theorem opdO_none {y : Option Operand} (h : opdO s y = none) : y = none := by cases y <;> first | rfl | cases h
theorem opdO_some (h : Sim X s a w g) {y : Option Operand} {v : AV} (e : opdO s y = some v) : ∃ z, y = some z ∧ RV w g v (a.eval z) := by
  cases y with
  | none => cases e
  | some z => cases e; exact ⟨z, rfl, h.opd z⟩
theorem slX_ok (h : Sim X s a w g) {t : TypeId} {y : Operand} {lo hi mx : Option Operand} (he : slX P t (opd s y) (opdO s lo) (opdO s hi) (opdO s mx) K = some x) : ValOk P a w g [] (.slice t y lo hi mx) K x := by
  have hy := h.opd y
  generalize hlv : opdO s lo = lv at he
  generalize hhv : opdO s hi = hv at he
  generalize hmv : opdO s mx = mv at he
  generalize opd s y = av at he hy
  unfold slX at he
  split at he
  · rename_i z k i hu
    obtain ⟨h2, he⟩ := chk_some he
    obtain ⟨h3, he⟩ := chk_some he
    have h2 := of_decide_eq_true h2
    have h3 := of_decide_eq_true h3
    obtain ⟨zh, rfl, rh⟩ := opdO_some h hhv
    cases opdO_none hlv; cases opdO_none hmv
    exact ⟨_, _, he, fun w' hw' o ho => by simp [execOp, ho, Instr.sliceAt, run_underlying hu, Instr.slice, Instr.sliceBounds, Instr.sliceBound, asIntOf, show a.eval y = _ from hy, show a.eval zh = _ from rh, h2, h3], rfl⟩
  · rename_i z k i hu
    obtain ⟨h2, he⟩ := chk_some he
    obtain ⟨h3, he⟩ := chk_some he
    have h2 := of_decide_eq_true h2
    have h3 := of_decide_eq_true h3
    obtain ⟨zl, rfl, rl⟩ := opdO_some h hlv
    cases opdO_none hhv; cases opdO_none hmv
    exact ⟨_, _, he, fun w' hw' o ho => by simp [execOp, ho, Instr.sliceAt, run_underlying hu, Instr.slice, Instr.sliceBounds, Instr.sliceBound, asIntOf, show a.eval y = _ from hy, show a.eval zl = _ from rl, h2, h3], rfl⟩
  · rename_i z k i k' i' hu
    obtain ⟨h2, he⟩ := chk_some he
    obtain ⟨h3, he⟩ := chk_some he
    obtain ⟨h4, he⟩ := chk_some he
    obtain ⟨h5, he⟩ := chk_some he
    have h2 := of_decide_eq_true h2
    have h3 := of_decide_eq_true h3
    have h4 := of_decide_eq_true h4
    have h5 := of_decide_eq_true h5
    have h6 : i ≤ ((i'.toNat : Nat) : Int) := by omega
    obtain ⟨zl, rfl, rl⟩ := opdO_some h hlv
    obtain ⟨zh, rfl, rh⟩ := opdO_some h hhv
    cases opdO_none hmv
    exact ⟨_, _, he, fun w' hw' o ho => by
      have h6' : i ≤ max i' 0 := by omega
      simp [execOp, ho, Instr.sliceAt, run_underlying hu, Instr.slice, Instr.sliceBounds, Instr.sliceBound, asIntOf, show a.eval y = _ from hy, show a.eval zl = _ from rl, show a.eval zh = _ from rh, h2, h3, h4, h6'], rfl⟩
  · rename_i e e' ty l hu
    split at he
    · rename_i f hf
      obtain ⟨hs, he⟩ := chk_some he
      have hs : f.size = ty.sz := Nat.eq_of_beq_eq_true hs
      obtain ⟨A, c, e1, hc, hz0, hr⟩ := hy
      have hrow : RowAt (Rep w g.ok ty) ty.sz w g.ok l (.slice A l.length c) := ⟨A, c, rfl, hc, hz0, hr⟩
      cases opdO_none hmv
      split at he
      · rename_i k i _
        obtain ⟨h2, he⟩ := chk_some he
        obtain ⟨h3, he⟩ := chk_some he
        have h2 := of_decide_eq_true h2
        have h3 := of_decide_eq_true h3
        obtain ⟨zh, rfl, rh⟩ := opdO_some h hhv
        cases opdO_none hlv
        have h4 : i ≤ (c : Int) := by omega
        refine ⟨_, _, he, fun w' hw' o ho => by simp [execOp, ho, Instr.sliceAt, run_underlying hu, Instr.slice, Instr.sliceBounds, Instr.sliceBound, asIntOf, e1, show a.eval zh = _ from rh, h2, h4, info_size hf]; rfl, ?_⟩
        have := hrow.cut 0 i.toNat (Nat.zero_le _) (by omega)
        rw [List.drop_zero, Nat.zero_mul, Nat.sub_zero, Nat.sub_zero] at this
        exact this
      · rename_i k i _
        obtain ⟨h2, he⟩ := chk_some he
        obtain ⟨h3, he⟩ := chk_some he
        have h2 := of_decide_eq_true h2
        have h3 := of_decide_eq_true h3
        obtain ⟨zl, rfl, rl⟩ := opdO_some h hlv
        cases opdO_none hhv
        refine ⟨_, _, he, fun w' hw' o ho => by simp [execOp, ho, Instr.sliceAt, run_underlying hu, Instr.slice, Instr.sliceBounds, Instr.sliceBound, asIntOf, e1, show a.eval zl = _ from rl, h2, h3, info_size hf]; rfl, ?_⟩
        have := hrow.cut i.toNat l.length (by omega) (Nat.le_refl _)
        rw [List.take_of_length_le (Nat.le_refl _)] at this
        rw [hs]
        exact this
      · rename_i k i k' i' _
        obtain ⟨h2, he⟩ := chk_some he
        obtain ⟨h3, he⟩ := chk_some he
        obtain ⟨h4, he⟩ := chk_some he
        obtain ⟨h5, he⟩ := chk_some he
        have h2 := of_decide_eq_true h2
        have h3 := of_decide_eq_true h3
        have h4 := of_decide_eq_true h4
        have h5 := of_decide_eq_true h5
        obtain ⟨zl, rfl, rl⟩ := opdO_some h hlv
        obtain ⟨zh, rfl, rh⟩ := opdO_some h hhv
        have h6 : i' ≤ (c : Int) := by omega
        have h7 : i ≤ max i' 0 := by omega
        refine ⟨_, _, he, fun w' hw' o ho => by simp [execOp, ho, Instr.sliceAt, run_underlying hu, Instr.slice, Instr.sliceBounds, Instr.sliceBound, asIntOf, e1, show a.eval zl = _ from rl, show a.eval zh = _ from rh, h2, h4, h6, h7, info_size hf]; rfl, ?_⟩
        have := hrow.cut i.toNat i'.toNat (by omega) (by omega)
        rw [hs]
        exact this
      · cases he
    · cases he
  · cases he
theorem fold_cells (off : Nat) : ∀ (vs : List Value) (k : Nat) (cells : Array Value), off + k + vs.length ≤ cells.size →
    ((vs.zipIdx k).foldl (fun cs (c, j) => cs.setIfInBounds (off + j) c) cells).toList = cells.toList.take (off + k) ++ vs ++ cells.toList.drop (off + k + vs.length)
  | [], k, cells, h => by simp
  | v :: vs, k, cells, h => by
    rw [List.length_cons] at h
    rw [List.zipIdx_cons, List.foldl_cons, fold_cells off vs (k + 1) _ (by simp; omega)]
    have hl : off + k < cells.toList.length := by simp; omega
    have e1 : (cells.setIfInBounds (off + k) v).toList.take (off + (k + 1)) = cells.toList.take (off + k) ++ [v] := by
      rw [Array.toList_setIfInBounds, show off + (k + 1) = off + k + 1 by omega, List.take_succ_eq_append_getElem (by simpa using hl)]
      rw [List.take_set_of_le (Nat.le_refl _)]
      simp
    have e2 : (cells.setIfInBounds (off + k) v).toList.drop (off + (k + 1) + vs.length) = cells.toList.drop (off + k + (v :: vs).length) := by
      rw [Array.toList_setIfInBounds, List.drop_set_of_lt (by omega), List.length_cons]
      congr 1; omega
    rw [e1, e2]; simp
theorem val_one (h : Sim X s a w g) {b : Nat} (hl : g.live b) : (g.val b).oneCell' = true := by
  cases hb : hget s.heap b with
  | none => have := (h.live b).1 hl; rw [hb] at this; cases this
  | some y =>
    cases y with
    | row pin e t l =>
      obtain ⟨inner, ⟨_, hv | ⟨k, cap, cur, hv, _⟩⟩, _⟩ := h.blk b _ hb
      · rw [hv.1]; rfl
      · rw [hv]; rfl
    | box pin cs =>
      obtain ⟨k, cells, e, hv, _⟩ := h.blk b _ hb
      rw [hv]; rfl
    | deep e t l =>
      obtain ⟨inner, _, hv | ⟨k, cap, cur, hv, _⟩⟩ := (h.blk b _ hb).1.own
      · rw [hv.1]; rfl
      · rw [hv]; rfl
    | obj k y =>
      obtain ⟨r, o, e1, _⟩ := obj_at h hb
      rw [e1]; cases k <;> rfl
theorem RV.one (h : Sim X s a w g) {v : AV} {cv : Value} (hv : RV w g v cv) (ho : v.one = true) : cv.oneCell' = true := by
  cases v with
  | own b => rw [show cv = _ from hv.2]; exact val_one h hv.1
  | bad => cases ho
  | undef => cases ho
  | agg vs => cases ho
  | tup vs => cases ho
  | nxt _ _ _ => cases ho
  | row e t l => obtain ⟨A, c, rfl, _⟩ := hv; rfl
  | ptr b o => obtain ⟨_, k, _, rfl⟩ := hv; rfl
  | elt b i sz o => obtain ⟨_, k, n, c, _, _, _, rfl⟩ := hv; rfl
  | relt e t l i o => obtain ⟨_, _, ad, c, _, rfl⟩ := hv; rfl
  | rptr cs o => obtain ⟨k, cs, e, _, _, _, rfl⟩ := hv; rfl
  | fn f caps => obtain ⟨cs, rfl, _⟩ := hv; rfl
  | dp b p => cases ho
  | de b p sz o => obtain ⟨_, q, i, k, n, c, _, _, _, _, rfl⟩ := hv; rfl
  | _ => rw [show cv = _ from hv]; rfl
theorem cells_of_one {v : Value} (h : v.oneCell' = true) : v.cells.toList = [v] := by cases v <;> first | rfl | cases h
theorem cells_rv (h : Sim X s a w g) {v : AV} {cv : Value} (hv : RV w g v cv) (ho : ones v.cells = true) : RVs w g v.cells cv.cells.toList := by
  cases v with
  | agg vs => obtain ⟨cs, rfl, hr⟩ := hv; simpa [Value.cells, AV.cells] using hr
  | _ =>
    simp only [AV.cells, ones, Bool.and_true] at ho ⊢
    rw [cells_of_one (hv.one h ho)]
    exact ⟨hv, trivial⟩
theorem ones_cells (h : Sim X s a w g) : ∀ {as : List AV} {vs : List Value}, RVs w g as vs → ones as = true → ∀ u ∈ vs, u.oneCell' = true
  | [], [], _, _ => by simp
  | v :: as, u :: vs, hr, ho => by
    simp only [ones, Bool.and_eq_true] at ho
    intro z hz
    rcases List.mem_cons.1 hz with rfl | hz
    · exact hr.1.one h ho.1
    · exact ones_cells h hr.2 ho.2 z hz
  | [], _ :: _, hr, _ => hr.elim
  | _ :: _, [], hr, _ => hr.elim
theorem fillX_ok (h : Sim X s a w g) (ps : List (Nat × Nat)) (place : Nat → Option (Nat × Nat)) (hpl : ∀ i p, nth ps i = some p → place i = some p) : ∀ (parts : List (Nat × Operand)) (cs : List AV) (cells : Array Value) (out : List AV), RVs w g cs cells.toList → fillX s ps parts cs = some out →
    ∃ r : Array Value, Instr.fill place cells (parts.map fun p => (p.1, a.eval p.2)) = some r ∧ RVs w g out r.toList
  | [], cs, cells, out, hr, he => by
    simp only [fillX, Option.some.injEq] at he
    subst he
    exact ⟨cells, rfl, hr⟩
  | (i, y) :: parts, cs, cells, out, hr, he => by
    simp only [fillX] at he
    split at he
    · rename_i p hp
      obtain ⟨h0, he⟩ := cond_some he
      simp only [Bool.and_eq_true] at h0
      obtain ⟨⟨h1, h2⟩, h3⟩ := h0
      have h1 := Nat.eq_of_beq_eq_true h1
      have h3 := Nat.le_of_ble_eq_true h3
      have hy := cells_rv h (h.opd y) h2
      have hl := hy.len
      have hl2 := hr.len
      rw [Array.length_toList] at hl hl2
      have hp' := hpl i p hp
      have hf : ((a.eval y).cells.zipIdx.foldl (fun cs (c, j) => cs.setIfInBounds (p.1 + j) c) cells).toList = cells.toList.take p.1 ++ (a.eval y).cells.toList ++ cells.toList.drop (p.1 + p.2) := by
        have := fold_cells p.1 (a.eval y).cells.toList 0 cells (by rw [Array.length_toList]; omega)
        rw [Nat.add_zero, Array.length_toList, hl, h1] at this
        rw [← Array.foldl_toList, Array.toList_zipIdx]
        exact this
      have hr' : RVs w g (cs.take p.1 ++ (opd s y).cells ++ cs.drop (p.1 + p.2)) ((a.eval y).cells.zipIdx.foldl (fun cs (c, j) => cs.setIfInBounds (p.1 + j) c) cells).toList := by
        rw [hf]; exact (hr.take.app hy).app hr.drop
      obtain ⟨r, e1, e2⟩ := fillX_ok h ps place hpl parts _ _ out hr' he
      refine ⟨r, ?_, e2⟩
      simp only [List.map_cons, Instr.fill, hp']
      rw [if_neg]
      · exact e1
      · simp only [Bool.or_eq_true, bne_iff_ne, ne_eq, decide_eq_true_eq, not_or]
        omega
    · cases he
theorem buildX_ok (h : Sim X s a w g) {t : TypeId} {parts : Array (Nat × Operand)} (he : buildX P s t parts.toList K = some x) : ValOk P a w g [] (.build t parts) K x := by
  unfold buildX at he
  split at he
  · rename_i fs i hu hi
    split at he
    · rename_i z hz
      split at he
      · rename_i ps hps
        split at he
        · rename_i cs hf
          obtain ⟨r, e1, e2⟩ := fillX_ok h ps (ps.toArray[·]?) (fun i p hp => by simpa using nth_get hp) parts.toList _ z.cells cs (RVs.ofVals z.cells.toList) hf
          have hb : P.built t (parts.map fun (i, x) => (i, a.eval x)).toList = some r := by
            unfold Program.built
            simp only [hi, hu, hz, hps]
            rw [Array.toList_map]; exact e1
          exact ⟨_, .agg r, he, fun w' hw' o ho => by simp [execOp, ho, run_build w' t _ r hb], ⟨r.toList, by simp, e2⟩⟩
        · cases he
      · cases he
    · cases he
  · cases he
theorem opds_rv (h : Sim X s a w g) : ∀ ys : List Operand, RVs w g (opds s ys) (ys.map a.eval)
  | [] => trivial
  | y :: ys => ⟨h.opd y, opds_rv h ys⟩
theorem valX_ok (h : Sim X s a w g) {op : Op} (he : valX P s op K = some x) : ValOk P a w g (reads s op) op K x := by
  unfold valX at he
  split at he
  · exact ⟨_, _, he, fun w' hw' o ho => by simp [execOp, ho], h.opd _⟩
  · exact ⟨_, _, he, fun w' hw' o ho => by simp [execOp, ho], h.opd _⟩
  · rename_i c y z
    have hc := h.opd c
    split at he
    · rename_i b hb
      rw [hb] at hc
      have hc : a.eval c = .bool b := hc
      cases b with
      | true => exact ⟨_, _, he, fun w' hw' o ho => by simp [execOp, ho, hc, asBool], h.opd _⟩
      | false => exact ⟨_, _, he, fun w' hw' o ho => by simp [execOp, ho, hc, asBool], h.opd _⟩
    · cases he
  · rename_i y z _
    cases hz : isNilI z with
    | true =>
      rw [hz] at he
      exact nilIX_ok h hz he
    | false =>
      rw [hz] at he
      exact bin2X_ok h he
  · exact unX_ok h he
  · exact convX_ok h he
  · rename_i y i
    have hy := h.opd y
    split at he
    · rename_i vs hv
      rw [hv] at hy
      obtain ⟨cs, e, hr⟩ := hy
      split at he
      · rename_i v hn
        obtain ⟨u, h1, h2⟩ := hr.nth hn
        exact ⟨_, u, he, fun w' hw' o ho => by simp [execOp, ho, e, Instr.extract, h1], h2⟩
      · cases he
    · rename_i ok n c hv
      rw [hv] at hy
      have hy : a.eval y = if ok then .tuple #[.bool true, .int .i64 n, .int .i32 c] else .tuple #[.bool false] := hy
      split at he
      · refine ⟨_, .bool ok, he, fun w' hw' o ho => ?_, rfl⟩
        cases ok <;> simp [execOp, ho, hy, Instr.extract]
      · obtain ⟨rfl, he⟩ := chk_some he
        exact ⟨_, _, he, fun w' hw' o ho => by simp [execOp, ho, hy, Instr.extract], rfl⟩
      · obtain ⟨rfl, he⟩ := chk_some he
        exact ⟨_, _, he, fun w' hw' o ho => by simp [execOp, ho, hy, Instr.extract], rfl⟩
      · cases he
    · cases he
  · rename_i y
    have hy := h.opd y
    split at he
    · rename_i b o hv
      rw [hv] at hy
      obtain ⟨h0, k, h1, h2⟩ := hy
      exact ⟨_, _, he, fun w' hw' o ho => by simp [execOp, ho, h2], h0, k, h1, rfl⟩
    · rename_i vs o hv
      rw [hv] at hy
      obtain ⟨k, cs, e, h1, h2, h3, h4⟩ := hy
      exact ⟨_, _, he, fun w' hw' o ho => by simp [execOp, ho, h4], k, cs, e, h1, h2, h3, rfl⟩
    · cases he
  · exact getX_ok h he
  · exact faX_ok h he
  · exact iaX_ok h he
  · exact ixX_ok h he
  · exact loadX_ok h he
  · exact lookX_ok h he
  · exact slX_ok h he
  · exact buildX_ok h he
  · rename_i f first caps
    split at he
    · rename_i hfi
      have e0 : first = #[] := by rw [← Array.toArray_toList (xs := first), hfi]
      refine ⟨_, .func (.func f) #[] (caps.map a.eval), he, fun w' hw' o ho => by simp [execOp, ho, Instr.makeFunc, e0], ⟨caps.toList.map a.eval, by rw [← Array.toList_map], opds_rv h _⟩⟩
    · cases he
  · rename_i c
    split at he
    · rename_i y t h1 h2 h3
      split at he
      · have := lenMX_ok h h1 h2 h3 he
        simpa only [reads, h1, h2] using this
      · exact (lenX_ok h h1 h2 h3 he).weak
    · rename_i y z _ h1 h2
      exact (minX_ok h h1 h2 he).weak
    · rename_i y z _ h1 h2
      exact (maxX_ok h h1 h2 he).weak
    · rename_i y z u _ h1 h2
      exact (min3X_ok h h1 h2 he).weak
    · cases he
  · cases he
end
end Go.Proofs.YthgmnlfbgajchaaV
