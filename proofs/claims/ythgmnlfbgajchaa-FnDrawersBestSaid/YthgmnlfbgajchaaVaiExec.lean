/- Code is run rightly: each step holds of the model's own run. Conditions: those that each theorem states. -/
/- A checked abstract run of Go functions: code. -/
import Derived.Test.YthgmnlfbgajchaaVaiShape
import Derived.Tactics
import Derived.OrdersHeld
namespace Go.Proofs.YthgmnlfbgajchaaV
set_option linter.unusedVariables false
set_option linter.unusedSimpArgs false
inductive AEx where
  | normal | exit (id : Nat) | ret
def AEx.up : AEx → Exit
  | .normal => .normal
  | .exit id => .exit id
  | .ret => .ret
/-- What a reader of the code must know: where ways meet, and what loops carry. -/
inductive Ann where
  | o                                              -- nothing
  | q (a b : Ann)                                  -- one after the other
  | c (a b : Ann)                                  -- two ways, each to its end
  | j (hs : List (Nat × Nat × Sh)) (a b : Ann)           -- two ways that meet
  | r (hs : List (Nat × Nat × Sh))                       -- a region whose ways meet
  | b (a : Ann)
  | m (hs : List (Nat × Nat × Sh)) (a : Ann)             -- a block whose ways to its end meet
  | l (hs : List (Nat × Nat × Sh)) (a : Ann)             -- a loop
  | d (D L : List Nat) (hs : List (Nat × Nat × Sh))    -- a region whose order is open: what it writes, which operations come last, and what its ways hand over
  | e (D L : List Nat)                                 -- .. of one order
  | f (D : List Nat) (q : List (Nat × Bool)) (hs : List (Nat × Nat × Sh))   -- .. done in this order ('true': what may be taken at any time), its ways meet
  | z (ts : List Nat) (a : Ann)                        -- a region ahead of which the rows in these slots are given away
def Ann.fst : Ann → Ann
  | .q y _ => y
  | .c y _ => y
  | .b y => y
  | _ => .o
def Ann.snd : Ann → Ann
  | .q _ y => y
  | .c _ y => y
  | _ => .o
def Ann.hs : Ann → List (Nat × Nat × Sh)
  | .j y _ _ => y
  | .r y => y
  | .l y _ => y
  | _ => []
def iter {σ α : Type} : Nat → ((σ → Option α) → σ → Option α) → σ → Option α
  | 0, _, _ => none
  | k + 1, F, x => F (iter k F) x
def opsWr (t : Nat) : List Oper → Bool
  | [] => false
  | o :: r => (match o.dst with | some d => Nat.beq d t | none => false) || opsWr t r
/-- The slots that code writes. -/
def wr : Code → Nat → Bool
  | .region _ ops _, t => opsWr t ops.toList
  | .seq a b, t => wr a t || wr b t
  | .cond _ a b, t => wr a t || wr b t
  | .block _ a, t => wr a t
  | .loop a, t => wr a t
  | _, _ => false
def callAs (s : St) (f : Operand) (args : List Operand) : Option (Nat × List AV) := match opd s f with
  | .fn i caps => some (i, opds s args ++ caps)
  | _ => none
def names0 : List AV → List Nat
  | [] => []
  | a :: r => nameOf a ++ names0 r
def argNames : AV → List Nat
  | .fn _ caps => names0 caps
  | a => nameOf a
def names : List AV → List Nat
  | [] => []
  | a :: r => argNames a ++ names r
/-- What boxes hold. -/
def cellNames (s : St) : List Nat → List Nat
  | [] => []
  | b :: r => (match hget s.heap b with
    | some (.box _ cs) => names cs
    | _ => []) ++ cellNames s r
def allNames (s : St) (as : List AV) : List Nat := names as ++ cellNames s (names as)
/-- The own rows and boxes that a call may write. -/
def callTouch (s : St) (c : Call) : List Nat := match c.callee with
  | .value f => match callAs s f c.args.toList with
    | some (_, as) => allNames s as
    | none => []
  | _ => []
/-- How calls are met. -/
abbrev Caller := Nat → St → Call → (α : Type) → (St → AV → Option α) → Option α
section
variable {α : Type}
def isMem : Op → Bool
  | .alloc _ | .box _ _ | .makeSlice _ _ _ | .buildSlice _ _ _ | .store _ _ _ | .makeMap _ _ | .mapUpdate _ _ _ _ | .range _ _ | .next _ _ => true
  | .call c => match c.callee with
    | .builtin .append => true
    | _ => false
  | _ => false
def isCall : Op → Bool
  | .call c => match c.callee with
    | .value _ => true
    | _ => false
  | _ => false
def theCall : Op → Option Call
  | .call c => some c
  | _ => none
def opTouch (s : St) (op : Op) : List Nat := bif isCall op then (match theCall op with | some c => callTouch s c | none => []) else bif isMem op then touch s op else []
noncomputable def opX (P : Program) (C : Caller) (d : Nat) (s : St) (op : Op) (K : St → AV → Option α) : Option α :=
  bif isCall op then (match theCall op with | some c => C d s c α K | none => none) else
  bif isMem op then memX P d s op K else valX P s op (fun v => K s v)
def dstOf : Option Nat → Nat
  | some d => d
  | none => 0
def dstOk (N : Nat) : Option Nat → Bool
  | none => true
  | some t => Nat.blt t N && Nat.blt t PB
noncomputable def operX (P : Program) (N : Nat) (C : Caller) (o : Oper) (s : St) (K : St → Option α) : Option α :=
  chk (dstOk N o.dst) (opX P C (dstOf o.dst) s o.op (fun s v => K (s.put o.dst v)))
def guardSlot (ops : List Oper) (i : Nat) : Option Nat := match nth ops i with
  | some o => o.dst
  | none => none
noncomputable def opsX (P : Program) (N : Nat) (C : Caller) (all : List Oper) : List Oper → St → (St → Option α) → Option α
  | [], s, K => K s
  | o :: r, s, K => match o.guard with
    | none => operX P N C o s (fun s => opsX P N C all r s K)
    | some (i, want) => match guardSlot all i with
      | some t => match get s.env t with
        | .bool b => cond b
          (bif want then operX P N C o (s.put (some t) (.bool true)) (fun s => opsX P N C all r s K) else chk (dstOk N o.dst) (opsX P N C all r ((s.put (some t) (.bool true)).put o.dst .undef) K))
          (bif want then chk (dstOk N o.dst) (opsX P N C all r ((s.put (some t) (.bool false)).put o.dst .undef) K) else operX P N C o (s.put (some t) (.bool false)) (fun s => opsX P N C all r s K))
        | .undef => chk (dstOk N o.dst) (opsX P N C all r (s.put o.dst .undef) K)
        | _ => none
      | none => none
def refine (s : St) (x : Operand) (b : Bool) : St := match x with
  | .tmp t => ⟨(t, .bool b) :: s.env, s.heap⟩
  | _ => s
def met {β : Type} (o : Option (β ⊕ α)) (F : β → Option α) : Option α := match o with
  | some (.inl x) => F x
  | some (.inr y) => some y
  | none => none
/-- What the holes hold goes on. -/
def pass {β : Type} (s : St) (hs : List (Nat × Nat × Sh)) (F : HT hs → Option β) : Option β := match prep s hs with
  | some s => match gets s hs with
    | some (x, p) => chk (okP p (fillHeap hs x)) (F x)
    | none => none
  | none => none
/-! ### Regions whose order is open -/
def memN (n : Nat) : List Nat → Bool
  | [] => false
  | m :: r => Nat.beq m n || memN n r
def allIn (F : List Nat) : List Nat → Bool
  | [] => true
  | n :: r => memN n F && allIn F r
def noneIn (F : List Nat) : List Nat → Bool
  | [] => true
  | n :: r => !memN n F && noneIn F r
def hkeys (D : List Nat) : List (Nat × Blk) → List Nat
  | [] => []
  | (k, _) :: r => bif Nat.blt k RB && !memN k D then k :: hkeys D r else hkeys D r
def stillIn (s : St) : List Nat → List Nat
  | [] => []
  | n :: r => match hget s.heap n with
    | some _ => n :: stillIn s r
    | none => stillIn s r
/-- May it be taken before what is ready besides. -/
def canTake (F : List Nat) (s : St) (op : Op) : Bool := !isCall op && (!isMem op && allIn F (reads s op))
/-- Does operation 'j' wait for operation 'i'. -/
def waits (ops : Array Oper) (i j : Nat) : Bool := match ops[j]? with
  | some o => o.after.any fun e => Region.binds .any e && e.on == i
  | none => false
def allWait (ops : Array Oper) (i : Nat) : List Nat → Bool
  | [] => true
  | j :: r => waits ops i j && allWait ops i r
/-- 'L': the operations that come last: they wait for all others. -/
def pickTake (ops : Array Oper) (L : List Nat) (listed : Array Bool) (F : List Nat) (s : St) : List Nat → Option Nat
  | [] => none
  | i :: r => match ops[i]? with
    | some o => bif canTake F s o.op && (Region.free .any ops listed i && (!memN i L && allWait ops i L)) then some i else pickTake ops L listed F s r
    | none => none
def restListed (L : List Nat) (listed : Array Bool) : Nat → Bool
  | 0 => true
  | n + 1 => (memN n L || listed.getD n false) && restListed L listed n
noncomputable def manyX (f : Nat → Option α) : List Nat → Option α
  | [] => none
  | [i] => f i
  | i :: r => andX (f i) (manyX f r)
/-- One operation, if it is wanted. -/
noncomputable def stepX (P : Program) (N : Nat) (C : Caller) (all : List Oper) (F : List Nat) (o : Oper) (s : St) (K : St → Option α) : Option α :=
  match o.guard with
  | none => chk (noneIn F (opTouch s o.op) && !memN (dstOf o.dst) F) (operX P N C o s K)
  | some (i, want) => match guardSlot all i with
    | some t => match get s.env t with
      | .bool b => cond b
        (bif want then chk (noneIn F (opTouch (s.put (some t) (.bool true)) o.op) && !memN (dstOf o.dst) F) (operX P N C o (s.put (some t) (.bool true)) K) else chk (dstOk N o.dst) (K ((s.put (some t) (.bool true)).put o.dst .undef)))
        (bif want then chk (dstOk N o.dst) (K ((s.put (some t) (.bool false)).put o.dst .undef)) else chk (noneIn F (opTouch (s.put (some t) (.bool false)) o.op) && !memN (dstOf o.dst) F) (operX P N C o (s.put (some t) (.bool false)) K))
      | .undef => chk (dstOk N o.dst) (K (s.put o.dst .undef))
      | _ => none
    | none => none
noncomputable def anyX (P : Program) (N : Nat) (C : Caller) (ops : Array Oper) (L : List Nat) : Nat → List Nat → Array Bool → St → (St → Option α) → Option α
  | 0, _, listed, s, K => match Region.ready .any ops listed with
    | [] => K s
    | _ => none
  | n + 1, F, listed, s, K => match Region.ready .any ops listed with
    | [] => K s
    | r :: rs => match pickTake ops L listed F s (r :: rs) with
      | some i => match ops[i]? with
        | some o => stepX P N C ops.toList F o s fun s' => anyX P N C ops L n F (listed.setIfInBounds i true) s' K
        | none => none
      | none => manyX (fun i => match ops[i]? with
        | some o => bif memN i L then chk (restListed L listed ops.size) (stepX P N C ops.toList [] o s fun s' => anyX P N C ops L n [] (listed.setIfInBounds i true) s' K)
          else stepX P N C ops.toList F o s fun s' => anyX P N C ops L n (stillIn s' F) (listed.setIfInBounds i true) s' K
        | none => none) (r :: rs)
noncomputable def drawX (P : Program) (N : Nat) (C : Caller) (ops : Array Oper) (D L : List Nat) (s : St) (K : St → Option α) : Option α :=
  chk (P.follows .mixedOrders && Region.noSelect ops) (anyX P N C ops L ops.size (hkeys D s.heap) (Array.replicate ops.size false) s K)
/-- What an operation waits for, as bits. -/
def waitBits : List Edge → Nat
  | [] => 0
  | e :: r => bif Region.binds .any e then Nat.lor (2 ^ e.on) (waitBits r) else waitBits r
def waitMasks : List Oper → List Nat
  | [] => []
  | o :: r => waitBits o.after.toList :: waitMasks r
/-- From place 'j' on: none is ready but perhaps 'i'. -/
def onlyAt (m i : Nat) : Nat → List Nat → Bool
  | _, [] => true
  | j, a :: r => (Nat.beq j i || (Nat.testBit m j || !Nat.beq (Nat.land a m) a)) && onlyAt m i (j + 1) r
def readyAt (m i : Nat) (A : List Nat) : Bool := match nth A i with
  | some a => !Nat.testBit m i && Nat.beq (Nat.land a m) a
  | none => false
def freeAt (ops : Array Oper) (m i : Nat) (o : Oper) : Nat → List Oper → List Nat → Bool
  | _, [], _ => true
  | j, p :: r, a :: A => (Nat.beq j i || (Nat.testBit m j || (Nat.testBit a i || o.apart ops p))) && freeAt ops m i o (j + 1) r A
  | _, _ :: _, [] => false
/-- Is this an order in which all can be done. -/
def sched (ops : Array Oper) (A : List Nat) : Nat → List (Nat × Bool) → Bool
  | m, [] => onlyAt m ops.size 0 A
  | m, (i, p) :: r => readyAt m i A && ((bif p then (match ops[i]? with | some o => freeAt ops m i o 0 ops.toList A | none => false) else onlyAt m i 0 A) && sched ops A (Nat.lor m (2 ^ i)) r)
noncomputable def lineX (P : Program) (N : Nat) (C : Caller) (ops : Array Oper) : List (Nat × Bool) → List Nat → St → (St → Option α) → Option α
  | [], _, s, K => K s
  | (i, p) :: r, F, s, K => match ops[i]? with
    | some o => bif p then chk (canTake F s o.op) (stepX P N C ops.toList F o s fun s' => lineX P N C ops r F s' K) else stepX P N C ops.toList F o s fun s' => lineX P N C ops r (stillIn s' F) s' K
    | none => none
noncomputable def lineDX (P : Program) (N : Nat) (C : Caller) (ops : Array Oper) (D : List Nat) (q : List (Nat × Bool)) (s : St) (K : St → Option α) : Option α :=
  chk ((P.follows .mixedOrders && Region.noSelect ops) && (Nat.ble q.length ops.size && sched ops (waitMasks ops.toList) 0 q)) (lineX P N C ops q (hkeys D s.heap) s K)
end
def ownNamesIn : List AV → List Nat
  | [] => []
  | .own b :: r => b :: ownNamesIn r
  | _ :: r => ownNamesIn r
def zNames (s : St) : List Nat → List Nat
  | [] => []
  | t :: r => match get s.env t with
    | .own b => b :: zNames s r
    | .ptr b _ => (match hget s.heap b with
      | some (.box _ cs) => ownNamesIn cs ++ zNames s r
      | _ => zNames s r)
    | _ => zNames s r
/-- A region. -/
noncomputable def regX (P : Program) (N : Nat) (C : Caller) (ops : Array Oper) (draw : Bool) (A : Ann) {α : Type} (s : St) (K : AEx → St → Option α) : Option α := bif draw then (match A with
    | .d D L hs => met (drawX (α := HT hs ⊕ α) P N C ops D L s fun s => pass s hs fun x => some (.inl x)) fun y => K .normal (fill (keep (fun t => opsWr t ops.toList) s.env) hs y)
    | .e D L => drawX P N C ops D L s (K .normal)
    | .f D q hs => met (lineDX (α := HT hs ⊕ α) P N C ops D q s fun s => pass s hs fun x => some (.inl x)) fun y => K .normal (fill (keep (fun t => opsWr t ops.toList) s.env) hs y)
    | _ => drawX P N C ops [] [] s (K .normal)) else match A with
    | .r hs => met (opsX (α := HT hs ⊕ α) P N C ops.toList ops.toList s fun s => pass s hs fun x => some (.inl x)) fun y => K .normal (fill (keep (fun t => opsWr t ops.toList) s.env) hs y)
    | _ => opsX P N C ops.toList ops.toList s (K .normal)
/-- The run. -/
noncomputable def exec (P : Program) (N : Nat) (C : Caller) (k : Nat) : Code → Ann → (α : Type) → St → (AEx → St → Option α) → Option α
  | .skip, _, _, s, K => K .normal s
  | .exit id, _, _, s, K => K (.exit id) s
  | .ret, _, _, s, K => K .ret s
  | .seq c d, A, α, s, K => exec P N C k c A.fst α s fun e s => match e with
      | .normal => exec P N C k d A.snd α s K
      | .exit id => K (.exit id) s
      | .ret => K .ret s
  | .cond x c d, A, α, s, K => match opd s x with
    | .bool b => match A with
      | .j hs A B => met (cond b
          (exec P N C k c A (HT hs ⊕ α) (refine s x true) fun e s => match e with
            | .normal => pass s hs fun x => some (.inl x)
            | .exit id => (K (.exit id) s).map .inr
            | .ret => (K .ret s).map .inr)
          (exec P N C k d B (HT hs ⊕ α) (refine s x false) fun e s => match e with
            | .normal => pass s hs fun x => some (.inl x)
            | .exit id => (K (.exit id) s).map .inr
            | .ret => (K .ret s).map .inr))
          fun y => K .normal (fill (keep (fun t => wr c t || wr d t) s.env) hs y)
      | A => cond b (exec P N C k c A.fst α (refine s x true) K) (exec P N C k d A.snd α (refine s x false) K)
    | _ => none
  | .block id c, A, α, s, K => match A with
    | .m hs A => met (exec P N C k c A (HT hs ⊕ α) s fun e s => match e with
        | .normal => pass s hs fun x => some (.inl x)
        | .exit i => bif Nat.beq i id then pass s hs fun x => some (.inl x) else (K (.exit i) s).map .inr
        | .ret => (K .ret s).map .inr) fun y => K .normal (fill (keep (wr c) s.env) hs y)
    | A => exec P N C k c A.fst α s fun e s => match e with
      | .normal => K .normal s
      | .exit i => bif Nat.beq i id then K .normal s else K (.exit i) s
      | .ret => K .ret s
  | .loop c, A, α, s, K => match A with
    | .l hs A => pass s hs (iter k fun rec x => exec P N C k c A α (fill (keep (wr c) s.env) hs x) fun e s => match e with
      | .normal => pass s hs rec
      | .exit id => K (.exit id) s
      | .ret => K .ret s)
    | _ => none
  | .region _ ops draw, A, α, s, K => match A with
    | .z ts A => (match frzNames s (zNames s ts) with
      | some s => regX P N C ops draw A s K
      | none => none)
    | A => regX P N C ops draw A s K
  | _, _, _, _, _ => none
/-! ### It is sound -/
def CallerOk (P : Program) (X : Cx) (C : Caller) : Prop := ∀ (s : St) (a : Act) (w : World) (g : Gh) (d : Nat) (c : Call) (α : Type) (K : St → AV → Option α) (x : α), Sim X s a w g → d < PB → C d s c α K = some x → (∃ f, c.callee = .value f) → OpOk P X a w g d (callTouch s c) (.call c) K x
section
variable {P : Program} {X : Cx} {C : Caller} {α : Type} {s : St} {a : Act} {w : World} {g : Gh} {x : α}
theorem opX_ok (hC : CallerOk P X C) (h : Sim X s a w g) {d : Nat} (hdp : d < PB) {op : Op} {K : St → AV → Option α} (he : opX P C d s op K = some x) : OpOk P X a w g d (opTouch s op) op K x := by
  unfold opX at he
  unfold opTouch
  cases hc : isCall op with
  | true =>
    rw [hc] at he
    simp only [cond_true] at he
    cases op <;> first | (cases hc; done) | skip
    rename_i c
    simp only [theCall] at he ⊢
    simp only [cond_true]
    refine hC s a w g d c α K x h hdp he ?_
    cases hcc : c.callee with
    | value f => exact ⟨f, rfl⟩
    | _ => simp [isCall, hcc] at hc
  | false =>
    rw [hc] at he
    simp only [cond_false] at he ⊢
    cases hm : isMem op with
    | true => rw [hm] at he; exact memX_ok h he
    | false =>
      rw [hm] at he
      obtain ⟨v, cv, h1, h2, h3⟩ := valX_ok h he
      exact fun N' hN o ho => .value (h2 w (fun _ _ _ => rfl) o ho) (hN _ _ _ _ _ h1 h h3 (Chg.refl _ _ w g))
theorem gives_wp {o : Oper} {next : Act → World → Prop} {Q : Exit → Act → World → Prop} (h : Gives P a w o fun v w' => next (a.put o.dst v) w') : o.wp P a w next Q := by
  unfold Gives at h
  unfold Oper.wp Oper.upon
  split at h
  · rename_i e; rw [e]; exact h
  · rename_i e; rw [e]; exact h
  · rename_i e; rw [e]
    refine h.mono fun e w' he => ?_
    obtain ⟨v, rfl, hn⟩ := he
    exact hn
  · exact h.elim
theorem put_slot {d : Option Nat} {v : Value} {t : Nat} (hd : ∀ u, d = some u → u ≠ t) : (a.put d v).tmps.getD t undef = a.tmps.getD t undef := by
  cases d with
  | none => rfl
  | some u =>
    simp only [Act.put]
    rw [Array.getD_eq_getD_getElem?, Array.getD_eq_getD_getElem?, Array.getElem?_setIfInBounds_ne (hd u rfl)]
theorem dstOk_lt {N : Nat} {d : Option Nat} (h : dstOk N d = true) : ∀ t, d = some t → t < N := by
  rintro t rfl
  simp only [dstOk, Bool.and_eq_true, Nat.blt_eq] at h
  exact h.1
theorem dstOk_pb {N : Nat} {d : Option Nat} (h : dstOk N d = true) : dstOf d < PB := by
  cases d with
  | none => exact (by decide : 0 < PB)
  | some t =>
    simp only [dstOk, Bool.and_eq_true, Nat.blt_eq] at h
    exact h.2
theorem operX_ok (hC : CallerOk P X C) (h : Sim X s a w g) {o : Oper} {K : St → Option α} (he : operX P X.N C o s K = some x) {next : Act → World → Prop} {Q : Exit → Act → World → Prop}
    (hn : ∀ s' a' w' g', K s' = some x → Sim X s' a' w' g' → Fut (fun t => opsWr t [o]) a w g a' w' g' → Chg (dstOf o.dst) (opTouch s o.op) w g w' g' → next a' w') : o.wp P a w next Q := by
  unfold operX at he
  replace he := chk_some he
  obtain ⟨h0, he⟩ := he
  refine gives_wp (opX_ok hC h (dstOk_pb h0) he _ (fun s' v cv w' g' hk hs hv hok => ?_) o rfl)
  refine hn _ _ _ _ hk (hs.put (dstOk_lt h0) hv) ⟨fun t ht => put_slot fun u hu e => ?_, hok.ok, hok.nms (dstOk_pb h0)⟩ hok
  subst e
  simp [opsWr, hu] at ht
theorem wpList_one {ops : Array Oper} {rest : List Oper} {o : Oper} {Q : Exit → Act → World → Prop} (hw : Region.wanted o (yielded ops a.tmps) = true) (h : o.wp P a w (wpList P ops Q rest) Q) : wpList P ops Q (o :: rest) a w := by
  simp only [wpList, hw, if_true]; exact .inl h
theorem wpList_out {ops : Array Oper} {rest : List Oper} {o : Oper} {Q : Exit → Act → World → Prop} (hw : Region.wanted o (yielded ops a.tmps) = false) (h : wpList P ops Q rest (a.put o.dst undef) w) : wpList P ops Q (o :: rest) a w := by
  simp only [wpList, hw, Bool.false_eq_true, if_false]; exact h
theorem yielded_is {ops : Array Oper} {i t : Nat} {b : Bool} (ht : guardSlot ops.toList i = some t) (hv : a.tmps.getD t undef = .bool b) : yielded ops a.tmps i = some b := by
  unfold guardSlot at ht
  split at ht
  · rename_i o' ho'
    have ho2 : ops[i]? = some o' := by have := nth_get ho'; simpa using this
    have ht2 : a.tmps[t]? = some (.bool b) := by
      rw [Array.getD_eq_getD_getElem?] at hv
      cases hq : a.tmps[t]? with
      | none => rw [hq] at hv; simp [undef] at hv
      | some v => rw [hq] at hv; simpa using hv
    simp [yielded, ho2, ht, ht2]
  · cases ht
theorem yielded_undef {ops : Array Oper} {i t : Nat} (ht : guardSlot ops.toList i = some t) (hv : a.tmps.getD t undef = undef) : yielded ops a.tmps i = none := by
  unfold guardSlot at ht
  split at ht
  · rename_i o' ho'
    have ho2 : ops[i]? = some o' := by have := nth_get ho'; simpa using this
    rw [Array.getD_eq_getD_getElem?] at hv
    cases hq : a.tmps[t]? with
    | none => simp [yielded, ho2, ht, hq]
    | some v => rw [hq] at hv; simp only [Option.getD_some] at hv; simp [yielded, ho2, ht, hq, hv, undef]
  · cases ht
theorem opsX_ok (hC : CallerOk P X C) (ops : Array Oper) : ∀ (l : List Oper) {s : St} {a : Act} {w : World} {g : Gh} {K : St → Option α} {Q : Exit → Act → World → Prop}, Sim X s a w g → opsX P X.N C ops.toList l s K = some x →
    (∀ s' a' w' g', K s' = some x → Sim X s' a' w' g' → Fut (fun t => opsWr t l) a w g a' w' g' → Q .normal a' w') → wpList P ops Q l a w
  | [], s, a, w, g, K, Q, h, he, hQ => hQ s a w g he h (Fut.refl _ _ _ _)
  | o :: l, s, a, w, g, K, Q, h, he, hQ => by
    have w1 : ∀ t, opsWr t (o :: l) = false → opsWr t [o] = false ∧ opsWr t l = false := fun t ht => by
      simp only [opsWr, Bool.or_eq_false_iff, Bool.or_false] at ht ⊢; exact ht
    -- the operation, and the rest
    have go : ∀ {s' : St}, Sim X s' a w g → operX P X.N C o s' (fun s => opsX P X.N C ops.toList l s K) = some x → o.wp P a w (wpList P ops Q l) Q := fun h' he' =>
      operX_ok hC h' he' fun s1 a1 w1' g1 hk hs hf _ => opsX_ok hC ops l hs hk fun s2 a2 w2 g2 hk2 hs2 hf2 => hQ s2 a2 w2 g2 hk2 hs2 ((hf.weak fun t ht => (w1 t ht).1).trans (hf2.weak fun t ht => (w1 t ht).2))
    have out : ∀ {s' : St}, Sim X s' a w g → chk (dstOk X.N o.dst) (opsX P X.N C ops.toList l (s'.put o.dst .undef) K) = some x → wpList P ops Q l (a.put o.dst undef) w := fun h' he' => by
      obtain ⟨h0, he'⟩ := chk_some he'
      refine opsX_ok hC ops l (h'.put (v := .undef) (cv := undef) (dstOk_lt h0) rfl) he' fun s2 a2 w2 g2 hk2 hs2 hf2 => hQ s2 a2 w2 g2 hk2 hs2 (Fut.trans ⟨fun t ht => put_slot fun u hu e => ?_, OkMv.refl w g, Nm.refl g⟩ (hf2.weak fun t ht => (w1 t ht).2))
      subst e
      have := (w1 u ht).1
      simp [opsWr, hu] at this
    simp only [opsX] at he
    split at he
    · rename_i hg
      exact wpList_one (by simp [Region.wanted, hg]) (go h he)
    · rename_i i want hg
      split at he
      · rename_i t ht
        split at he
        · rename_i b hb
          have hv := h.env t
          rw [hb] at hv
          have hv : a.tmps.getD t undef = .bool b := hv
          have hy : yielded ops a.tmps i = some b := by
            unfold guardSlot at ht
            split at ht
            · rename_i o' ho'
              have ho2 : ops[i]? = some o' := by have := nth_get ho'; simpa using this
              have ht2 : a.tmps[t]? = some (.bool b) := by
                rw [Array.getD_eq_getD_getElem?] at hv
                cases hq : a.tmps[t]? with
                | none => rw [hq] at hv; simp [undef] at hv
                | some v => rw [hq] at hv; simpa using hv
              simp [yielded, ho2, ht, ht2]
            · cases ht
          have hw : Region.wanted o (yielded ops a.tmps) = (b == want) := by
            simp only [Region.wanted, hg, hy]
            cases b <;> cases want <;> rfl
          have h1 : Sim X (s.put (some t) (.bool b)) a w g := h.reput hv
          cases b <;> cases want <;> simp only [cond_true, cond_false] at he
          · exact wpList_one hw (go h1 he)
          · exact wpList_out hw (out h1 he)
          · exact wpList_out hw (out h1 he)
          · exact wpList_one hw (go h1 he)
        · rename_i hb
          have hv := h.env t
          rw [hb] at hv
          exact wpList_out (by simp [Region.wanted, hg, yielded_undef ht hv]) (out h he)
        · cases he
      · cases he
theorem region_ok (hC : CallerOk P X C) {id : Nat} {ops : Array Oper} {K : St → Option α} {Q : Exit → Act → World → Prop} (h : Sim X s a w g) (he : opsX P X.N C ops.toList ops.toList s K = some x)
    (hQ : ∀ s' a' w' g', K s' = some x → Sim X s' a' w' g' → Fut (fun t => opsWr t ops.toList) a w g a' w' g' → Q .normal a' w') : (Code.region id ops false).wp P Q a w := by
  refine wp_region ?_
  have e := wpOps_eq_wpList (P := P) (Q := Q) (ops := ops) ops.toList 0 (fun j => by simp)
  rw [Array.length_toList] at e
  rw [List.range_eq_range', e]
  exact opsX_ok hC ops ops.toList h he hQ
/-! ### .. whose order is open -/
theorem memN_ok {n : Nat} : ∀ {l : List Nat}, memN n l = true ↔ n ∈ l
  | [] => by simp [memN]
  | m :: r => by
    simp only [memN, Bool.or_eq_true, memN_ok (l := r), List.mem_cons, Nat.beq_eq]
    exact ⟨fun h => h.imp Eq.symm id, fun h => h.imp Eq.symm id⟩
theorem allIn_ok {F : List Nat} : ∀ {l : List Nat}, allIn F l = true → ∀ n ∈ l, n ∈ F
  | [], _, _, h => by simp at h
  | m :: r, h, n, hn => by
    simp only [allIn, Bool.and_eq_true] at h
    rcases List.mem_cons.1 hn with e | hn
    · rw [e]; exact memN_ok.1 h.1
    · exact allIn_ok h.2 n hn
theorem noneIn_ok {F : List Nat} : ∀ {l : List Nat}, noneIn F l = true → ∀ n ∈ F, n ∉ l
  | [], _, _, _ => by simp
  | m :: r, h, n, hn => by
    simp only [noneIn, Bool.and_eq_true, Bool.not_eq_true'] at h
    intro hm
    rcases List.mem_cons.1 hm with e | hm
    · rw [← e] at h; rw [memN_ok.2 hn] at h; simp at h
    · exact noneIn_ok h.2 n hn hm
theorem hkeys_lt {D : List Nat} : ∀ {l : List (Nat × Blk)}, ∀ n ∈ hkeys D l, n < RB
  | [], n, h => by simp [hkeys] at h
  | (k, y) :: r, n, h => by
    simp only [hkeys] at h
    cases hb : (Nat.blt k RB && !memN k D) with
    | true =>
      rw [hb] at h
      simp only [Bool.and_eq_true, Nat.blt_eq] at hb
      rcases List.mem_cons.1 h with e | h
      · rw [e]; exact hb.1
      · exact hkeys_lt n h
    | false => rw [hb] at h; exact hkeys_lt n h
theorem stillIn_ok {s : St} : ∀ {F : List Nat} {n : Nat}, n ∈ stillIn s F → n ∈ F
  | [], n, h => by simp [stillIn] at h
  | m :: r, n, h => by
    simp only [stillIn] at h
    split at h
    · rcases List.mem_cons.1 h with e | h
      · rw [e]; exact List.mem_cons_self ..
      · exact List.mem_cons_of_mem _ (stillIn_ok h)
    · exact List.mem_cons_of_mem _ (stillIn_ok h)
theorem stillIn_mem {s : St} : ∀ {F : List Nat} {n : Nat}, n ∈ F → (hget s.heap n).isSome = true → n ∈ stillIn s F
  | m :: r, n, h, hs => by
    simp only [stillIn]
    rcases List.mem_cons.1 h with e | h
    · subst e
      cases hq : hget s.heap n with
      | none => rw [hq] at hs; cases hs
      | some y => exact List.mem_cons_self ..
    · split
      · exact List.mem_cons_of_mem _ (stillIn_mem h hs)
      · exact stillIn_mem h hs
theorem manyX_some {f : Nat → Option α} : ∀ {l : List Nat}, manyX f l = some x → ∀ i ∈ l, f i = some x
  | [], h, _, _ => by cases h
  | [i], h, j, hj => by rw [List.mem_singleton.1 hj]; exact h
  | i :: i2 :: r, h, j, hj => by
    obtain ⟨h1, h2⟩ := andX_some (p := f i) (q := manyX f (i2 :: r)) h
    rcases List.mem_cons.1 hj with e | hj
    · rw [e]; exact h1
    · exact manyX_some h2 j hj
theorem Sim.drew (h : Sim X s a w g) : Sim X s a { w with drawn := w.drawn + 1 } g := by
  have m : Mv w g (fun _ => False) { w with drawn := w.drawn + 1 } g := ⟨fun _ hk _ => ⟨rfl, hk⟩, fun _ _ hl => ⟨hl, rfl, rfl⟩⟩
  exact ⟨fun t => (h.env t).move m, h.live, fun b y hb => (h.blk b y hb).move m rfl rfl (fun _ _ => rfl), h.disj, h.own, h.flat, h.ok, h.size, h.defers, ⟨h.kept.os, h.kept.tape, h.kept.output, h.kept.size, h.kept.block⟩, h.base, h.glob.move m.blk⟩
/-- Whatever order is picked; and 'S' holds behind each operation that doesn't come last. -/
def wpAnyA (P : Program) (ops : Array Oper) (Q : Exit → Act → World → Prop) (S : World → Prop) (A : Nat → Bool) : Nat → Array Bool → Act → World → Prop
  | 0, listed, a, w => Region.ready .any ops listed = [] ∧ Q .normal a w
  | fuel + 1, listed, a, w => (Region.ready .any ops listed = [] → Q .normal a w) ∧
    ∀ i ∈ Region.ready .any ops listed, wpOp P ops Q i (fun a' w' => (A i = true → S w') ∧ wpAnyA P ops Q S A fuel (listed.setIfInBounds i true) a' w') a w
section
variable {ops : Array Oper} {Q : Exit → Act → World → Prop} {S S' : World → Prop} {A : Nat → Bool}
theorem any_of_A : ∀ (fuel : Nat) (listed : Array Bool) (a : Act) (w : World), wpAnyA P ops Q S A fuel listed a w → wpAny P .any ops Q fuel listed a w
  | 0, _, _, _, h => h
  | fuel + 1, _, _, _, h => ⟨h.1, fun i hi => wpOp_mono (fun a' w' h' => any_of_A fuel _ a' w' h'.2) (h.2 i hi)⟩
theorem A_mono (hS : ∀ w, S w → S' w) : ∀ (fuel : Nat) (listed : Array Bool) (a : Act) (w : World), wpAnyA P ops Q S A fuel listed a w → wpAnyA P ops Q S' A fuel listed a w
  | 0, _, _, _, h => h
  | fuel + 1, _, _, _, h => ⟨h.1, fun i hi => wpOp_mono (fun a' w' h' => ⟨fun hA => hS w' (h'.1 hA), A_mono hS fuel _ a' w' h'.2⟩) (h.2 i hi)⟩
theorem A_late : ∀ (fuel : Nat) (listed : Array Bool) (a : Act) (w : World), (∀ i, i < ops.size → A i = true → listed.getD i false = true) → listed.size = ops.size → wpAnyA P ops Q S A fuel listed a w → wpAnyA P ops Q S' A fuel listed a w
  | 0, _, _, _, _, _, h => h
  | fuel + 1, listed, _, _, hl, hz, h => ⟨h.1, fun i hi => wpOp_mono (fun a' w' h' => ⟨fun hA => (by
      obtain ⟨h1, o, ho, _⟩ := mem_ready.1 hi
      have hlt : i < ops.size := (Array.getElem?_eq_some_iff.1 ho).1
      have h2 := hl i hlt hA
      rw [Array.getD_eq_getD_getElem?, Array.getElem?_eq_getElem (by omega)] at h1 h2
      rw [show listed[i] = true from h2] at h1; cases h1), A_late fuel _ a' w' (fun j hj hA => by
      by_cases e : i = j
      · subst e
        rw [Array.getD_eq_getD_getElem?, Array.getElem?_setIfInBounds_self_of_lt (by omega)]; rfl
      · rw [Array.getD_eq_getD_getElem?, Array.getElem?_setIfInBounds_ne e, ← Array.getD_eq_getD_getElem?]; exact hl j hj hA) (by simpa using hz) h'.2⟩) (h.2 i hi)⟩
theorem A_done {listed : Array Bool} {a : Act} {w : World} (hr : Region.ready .any ops listed = []) (h : Q .normal a w) : ∀ fuel, wpAnyA P ops Q S A fuel listed a w
  | 0 => ⟨hr, h⟩
  | _ + 1 => ⟨fun _ => h, by rw [hr]; simp⟩
theorem A_first {i : Nat} {oi : Oper} {v : Value} (hi : ops[i]? = some oi) (hsel : ∀ (j : Nat) (o : Oper) cs b, ops[j]? = some o → o.op ≠ .select cs b)
    (hQ : ∀ c a w, Q (.panic c) (a.put oi.dst v) w → Q (.panic c) a w) (hA : ∀ j, A j = false → waits ops i j = true) :
    ∀ (fuel : Nat) (listed : Array Bool) (a : Act) (w : World),
      (∀ j oj, ops[j]? = some oj → j ≠ i → listed.getD j true = false → (∀ e ∈ oj.after, Region.binds .any e = true → e.on ≠ i) → oi.apart ops oj = true) →
      i ∈ Region.ready .any ops listed → YieldsIf P ops S oi v a → S w →
      wpAnyA P ops Q S A fuel (listed.setIfInBounds i true) (a.put oi.dst v) w → wpAnyA P ops Q S A (fuel + 1) listed a w := by
  intro fuel
  induction fuel with
  | zero =>
    intro listed a w _ hr hy hS H
    refine ⟨fun h => (by rw [h] at hr; cases hr), fun j hj => ?_⟩
    by_cases hji : j = i
    · subst hji; exact hy.wpOp hi hS ⟨fun _ => hS, H⟩
    · have := ready_mono hj hji
      rw [H.1] at this
      cases this
  | succ fuel ih =>
    intro listed a w hfree hr hy hS H
    refine ⟨fun h => (by rw [h] at hr; cases hr), fun j hj => ?_⟩
    by_cases hji : j = i
    · subst hji; exact hy.wpOp hi hS ⟨fun _ => hS, H⟩
    · have h1 := H.2 j (ready_mono hj hji)
      obtain ⟨hjun, oj, hoj, hall⟩ := mem_ready.1 hj
      have hnot : ∀ e ∈ oj.after, Region.binds .any e = true → e.on ≠ i := fun e he hb heq => by
        have h1 := hall e he hb
        have h0 := (mem_ready.1 hr).1
        rw [heq] at h1
        rcases Nat.lt_or_ge i listed.size with h' | h'
        · simp [h'] at h0 h1; rw [h0] at h1; cases h1
        · simp [Array.getElem?_eq_none h'] at h1
      have hAj : A j = true := by
        cases hAj : A j with
        | true => rfl
        | false =>
          have := hA j hAj
          unfold waits at this
          rw [hoj] at this
          obtain ⟨e, he, hb⟩ := Array.any_eq_true'.1 this
          simp only [Bool.and_eq_true, beq_iff_eq] at hb
          exact absurd hb.2 (hnot e he hb.1)
      have h2 := wpOp_putIf hoj (hfree j oj hoj hji hjun hnot) (fun cs b => hsel i oi cs b hi) (fun cs b => hsel j oj cs b hoj) hQ hy h1
      have hfree' : ∀ k ok, ops[k]? = some ok → k ≠ i → (listed.setIfInBounds j true).getD k true = false →
          (∀ e ∈ ok.after, Region.binds .any e = true → e.on ≠ i) → oi.apart ops ok = true := fun k ok hk hki hun hno => by
        refine hfree k ok hk hki ?_ hno
        by_cases hjk : j = k
        · subst hjk; exact hjun
        · rw [getD_set_ne true hjk] at hun; exact hun
      refine wpOp_mono (fun a' w' h3 => ⟨fun _ => h3.2.1 hAj, ih (listed.setIfInBounds j true) a' w' hfree' (ready_mono hr (Ne.symm hji)) h3.1 (h3.2.1 hAj) ?_⟩) h2
      rw [Array.setIfInBounds_comm _ _ hji]
      exact h3.2.2
end
theorem allWait_ok {ops : Array Oper} {i : Nat} : ∀ {l : List Nat}, allWait ops i l = true → ∀ j, (!memN j l) = false → waits ops i j = true
  | [], _, j, hj => by simp [memN] at hj
  | k :: r, h, j, hj => by
    simp only [allWait, Bool.and_eq_true] at h
    simp only [Bool.not_eq_false', memN_ok, List.mem_cons] at hj
    rcases hj with e | hj
    · rw [e]; exact h.1
    · exact allWait_ok h.2 j (by simp only [Bool.not_eq_false', memN_ok]; exact hj)
theorem restListed_ok {L : List Nat} {listed : Array Bool} : ∀ {n : Nat}, restListed L listed n = true → ∀ i, i < n → (!memN i L) = true → listed.getD i false = true
  | 0, _, _, h, _ => by omega
  | n + 1, h, i, hi, hA => by
    simp only [restListed, Bool.and_eq_true, Bool.or_eq_true] at h
    rcases Nat.lt_or_ge i n with hlt | hge
    · exact restListed_ok h.2 i hlt hA
    · have e : i = n := by omega
      subst e
      rcases h.1 with h1 | h1
      · rw [h1] at hA; cases hA
      · exact h1
/-- One operation of a region: it is wanted and done, or it isn't. -/
theorem stepX_some {ops : Array Oper} {F : List Nat} {o : Oper} {K : St → Option α} (h : Sim X s a w g) (he : stepX P X.N C ops.toList F o s K = some x) :
    (∃ s1, Sim X s1 a w g ∧ Region.wanted o (yielded ops a.tmps) = true ∧ noneIn F (opTouch s1 o.op) = true ∧ dstOf o.dst ∉ F ∧ operX P X.N C o s1 K = some x ∧ s1.heap = s.heap ∧ ∀ y, opd s1 y = opd s y ∨ ∃ b, opd s1 y = .bool b) ∨
    (∃ s1, Sim X s1 a w g ∧ Region.wanted o (yielded ops a.tmps) = false ∧ dstOk X.N o.dst = true ∧ K (s1.put o.dst .undef) = some x) := by
  unfold stepX at he
  have go : ∀ (s1 : St), Sim X s1 a w g → Region.wanted o (yielded ops a.tmps) = true → (s1.heap = s.heap ∧ ∀ y, opd s1 y = opd s y ∨ ∃ b, opd s1 y = .bool b) → chk (noneIn F (opTouch s1 o.op) && !memN (dstOf o.dst) F) (operX P X.N C o s1 K) = some x → ∃ s1, Sim X s1 a w g ∧ Region.wanted o (yielded ops a.tmps) = true ∧ noneIn F (opTouch s1 o.op) = true ∧ dstOf o.dst ∉ F ∧ operX P X.N C o s1 K = some x ∧ s1.heap = s.heap ∧ ∀ y, opd s1 y = opd s y ∨ ∃ b, opd s1 y = .bool b := fun s1 h1 hw hy he => by
    obtain ⟨h0, he⟩ := chk_some he
    simp only [Bool.and_eq_true, Bool.not_eq_true'] at h0
    exact ⟨s1, h1, hw, h0.1, fun hm => by rw [memN_ok.2 hm] at h0; simp at h0, he, hy⟩
  split at he
  · rename_i hg
    exact .inl (go s h (by simp [Region.wanted, hg]) ⟨rfl, fun y => .inl rfl⟩ he)
  · rename_i i want hg
    split at he
    · rename_i t ht
      split at he
      · rename_i b hb
        have hv := h.env t
        rw [hb] at hv
        have hv : a.tmps.getD t undef = .bool b := hv
        have hw : Region.wanted o (yielded ops a.tmps) = (b == want) := by
          simp only [Region.wanted, hg, yielded_is ht hv]
          cases b <;> cases want <;> rfl
        have h1 : Sim X (s.put (some t) (.bool b)) a w g := h.reput hv
        have hy : ∀ y, opd (s.put (some t) (.bool b)) y = opd s y ∨ ∃ b', opd (s.put (some t) (.bool b)) y = .bool b' := fun y => by
          cases y with
          | tmp u =>
            by_cases e : t = u
            · subst e; exact .inr ⟨b, by show get ((t, AV.bool b) :: s.env) t = _; simp [get]⟩
            · left; show get ((t, AV.bool b) :: s.env) u = get s.env u; simp only [get]; rw [beq_ne e]; rfl
          | _ => exact .inl rfl
        have out : chk (dstOk X.N o.dst) (K ((s.put (some t) (.bool b)).put o.dst .undef)) = some x → (b == want) = false → ∃ s1, Sim X s1 a w g ∧ Region.wanted o (yielded ops a.tmps) = false ∧ dstOk X.N o.dst = true ∧ K (s1.put o.dst .undef) = some x := fun he hf => by
          obtain ⟨h0, he⟩ := chk_some he
          exact ⟨_, h1, hw.trans hf, h0, he⟩
        cases b <;> cases want <;> simp only [cond_true, cond_false] at he
        · exact .inl (go _ h1 hw ⟨rfl, hy⟩ he)
        · exact .inr (out he rfl)
        · exact .inr (out he rfl)
        · exact .inl (go _ h1 hw ⟨rfl, hy⟩ he)
      · rename_i hb
        have hv := h.env t
        rw [hb] at hv
        obtain ⟨h0, he⟩ := chk_some he
        exact .inr ⟨s, h, by simp [Region.wanted, hg, yielded_undef ht hv], h0, he⟩
      · cases he
    · cases he
/-- What a later operation may count on: what no one writes, and what the region leaves alone. -/
def HeldS (w : World) (g : Gh) (F : List Nat) (w' : World) : Prop := ∀ k, (g.ok k ∨ ∃ n, n ∈ F ∧ g.live n ∧ g.has n k) → k < w.heap.size → w'.heap[k]? = w.heap[k]?
theorem HeldS.refl (w : World) (g : Gh) (F : List Nat) : HeldS w g F w := fun _ _ _ => rfl
theorem HeldS.step (h : Sim X s a w g) {F : List Nat} (hF : ∀ n ∈ F, n < RB) {d : Nat} {T : List Nat} (hT : ∀ n ∈ F, n ∉ T) (hd : d ∉ F) {s1 : St} {a1 : Act} {w1 : World} {g1 : Gh} (h1 : Sim X s1 a1 w1 g1) (hc : Chg d T w g w1 g1) :
    ∀ w', HeldS w1 g1 (stillIn s1 F) w' → HeldS w g F w' := by
  intro w' hw k hk hlt
  have size : w1.heap[k]? = w.heap[k]? → k < w1.heap.size := fun e => by
    rcases Nat.lt_or_ge k w1.heap.size with h | h
    · exact h
    · rw [Array.getElem?_eq_none h, Array.getElem?_eq_getElem hlt] at e; cases e
  rcases hk with hk | ⟨n, hn, hl, hk⟩
  · obtain ⟨e1, e2⟩ := hc.ok k hk hlt
    rw [hw k (.inl e2) (size e1), e1]
  · obtain ⟨e1, e2⟩ := hc.un n k (hT n hn) hl hk
    rcases e2 with e2 | e2
    · rw [hw k (.inl e2) (size e1), e1]
    · obtain ⟨_, q1, q2⟩ := hc.nm n (hF n hn) (fun e => hd (by rw [← e]; exact hn)) e2
      rw [hw k (.inr ⟨n, stillIn_mem hn ((h1.live n).1 e2), e2, (has_same q1 (q2 (hT n hn))).2 hk⟩) (size e1), e1]
theorem pickTake_ok {ops : Array Oper} {L : List Nat} {listed : Array Bool} {F : List Nat} : ∀ {l : List Nat} {i : Nat}, pickTake ops L listed F s l = some i → i ∈ l ∧ ∃ o, ops[i]? = some o ∧ canTake F s o.op = true ∧ Region.free .any ops listed i = true ∧ allWait ops i L = true
  | [], _, h => by cases h
  | j :: r, i, h => by
    simp only [pickTake] at h
    split at h
    · rename_i o ho
      cases hb : (canTake F s o.op && (Region.free .any ops listed j && (!memN j L && allWait ops j L))) with
      | true =>
        rw [hb] at h
        cases h
        simp only [Bool.and_eq_true] at hb
        exact ⟨List.mem_cons_self .., o, ho, hb.1, hb.2.1, hb.2.2.2⟩
      | false =>
        rw [hb] at h
        obtain ⟨h1, h2⟩ := pickTake_ok h
        exact ⟨List.mem_cons_of_mem _ h1, h2⟩
    · cases h
theorem opd_put_reads {s1 : St} (hh : s1.heap = s.heap) (hy : ∀ y, opd s1 y = opd s y ∨ ∃ b, opd s1 y = .bool b) (op : Op) : ∀ n ∈ reads s1 op, n ∈ reads s op := by
  intro n hn
  have one : ∀ y, n ∈ nameOf (opd s1 y) → n ∈ nameOf (opd s y) := fun y hn => by
    rcases hy y with e | ⟨b, e⟩
    · rw [← e]; exact hn
    · rw [e] at hn; simp [nameOf] at hn
  have two : ∀ y, n ∈ objNames s1 (opd s1 y) → n ∈ objNames s (opd s y) := fun y hn => by
    rcases hy y with e | ⟨b, e⟩
    · rw [← e]
      have e2 : objNames s (opd s1 y) = objNames s1 (opd s1 y) := by unfold objNames; rw [hh]
      rw [e2]; exact hn
    · rw [e] at hn; simp [objNames] at hn
  cases op with
  | load t y => exact one y hn
  | convert t t' y => exact one y hn
  | lookup t y i b => exact one y hn
  | call c =>
    simp only [reads] at hn ⊢
    split at hn
    · exact two _ hn
    · simp at hn
  | _ => exact hn
theorem anyX_ok (hC : CallerOk P X C) (ops : Array Oper) (L : List Nat) (hsel : Region.noSelect ops = true) : ∀ (fuel : Nat) {F : List Nat} {listed : Array Bool} {s : St} {a : Act} {w : World} {g : Gh} {K : St → Option α} {Q : Act → World → Prop}, listed.size = ops.size → (∀ n ∈ F, n < RB) → Sim X s a w g → anyX P X.N C ops L fuel F listed s K = some x →
    (∀ s' a' w' g', K s' = some x → Sim X s' a' w' g' → Fut (fun t => opsWr t ops.toList) a w g a' w' g' → Q a' w') → wpAnyA P ops (fun e a w => e = .normal ∧ Q a w) (HeldS w g F) (fun i => !memN i L) fuel listed a w
  | 0, F, listed, s, a, w, g, K, Q, hz, hF, h, he, hQ => by
    simp only [anyX] at he
    split at he
    · rename_i hr
      exact ⟨hr, rfl, hQ s a w g he h (Fut.refl _ _ _ _)⟩
    · cases he
  | fuel + 1, F, listed, s, a, w, g, K, Q, hz, hF, h, he, hQ => by
    have hz' : ∀ i, (listed.setIfInBounds i true).size = ops.size := fun i => by simpa using hz
    have wr1 : ∀ (i : Nat) (o : Oper), ops[i]? = some o → ∀ t, opsWr t ops.toList = false → opsWr t [o] = false := fun i o ho t ht => by
      have hmem : o ∈ ops.toList := by
        have : ops.toList[i]? = some o := by simpa using ho
        exact List.mem_of_getElem? this
      have gen : ∀ l : List Oper, o ∈ l → opsWr t l = false → opsWr t [o] = false := fun l => by
        induction l with
        | nil => intro h; simp at h
        | cons y l ih =>
          intro hm hw
          simp only [opsWr, Bool.or_eq_false_iff] at hw
          rcases List.mem_cons.1 hm with e | hm
          · subst e; simp only [opsWr, Bool.or_false]; exact hw.1
          · exact ih hm hw.2
      exact gen _ hmem ht
    have out : ∀ (i : Nat) (o : Oper), ops[i]? = some o → ∀ (s1 : St), Sim X s1 a w g → dstOk X.N o.dst = true → Sim X (s1.put o.dst .undef) (a.put o.dst undef) w g ∧ Fut (fun t => opsWr t ops.toList) a w g (a.put o.dst undef) w g := fun i o ho s1 h1 h0 => by
      refine ⟨h1.put (v := .undef) (cv := undef) (dstOk_lt h0) rfl, fun t ht => put_slot fun u hu e => ?_, OkMv.refl w g, Nm.refl g⟩
      subst e
      have := wr1 i o ho u ht
      simp [opsWr, hu] at this
    simp only [anyX] at he
    split at he
    · rename_i hr
      exact A_done hr ⟨rfl, hQ s a w g he h (Fut.refl _ _ _ _)⟩ _
    · rename_i r rs hr
      split at he
      · rename_i i hp
        obtain ⟨hi, o, ho, hcan, hfree, hwait⟩ := pickTake_ok hp
        rw [ho] at he
        simp only at he
        simp only [canTake, Bool.and_eq_true, Bool.not_eq_true'] at hcan
        have hcont : i ∈ Region.ready .any ops listed := by rw [hr]; exact hi
        rcases stepX_some h he with ⟨s1, h1, hw, ht, hd, he, hy⟩ | ⟨s1, h1, hw, h0, he⟩
        · unfold operX opX at he
          replace he := chk_some he
          obtain ⟨h0, he⟩ := he
          rw [hcan.1, hcan.2.1] at he
          simp only [cond_false] at he
          obtain ⟨v, cv, q1, q2, q3⟩ := valX_ok h1 he
          refine A_first ho (Region.noSelect_spec hsel) (fun c a w hq => by cases hq.1) (allWait_ok hwait) fuel listed a w (Region.free_spec ho hfree) hcont (v := cv) (.inl ⟨hw, fun w' hw' => q2 w' (fun k hk hlt => hw' k (hk.imp_right fun ⟨n, hn, h3⟩ => ⟨n, allIn_ok hcan.2.2 n (opd_put_reads hy.1 hy.2 o.op n hn), h3⟩) hlt) o rfl⟩) (HeldS.refl w g F)
            (anyX_ok hC ops L hsel fuel (hz' i) hF (h1.put (dstOk_lt h0) q3) q1 fun s2 a2 w2 g2 hk2 hs2 hf2 => hQ s2 a2 w2 g2 hk2 hs2 (Fut.trans ⟨fun t ht => put_slot fun u hu e => ?_, OkMv.refl w g, Nm.refl g⟩ hf2))
          subst e
          have := wr1 i o ho u ht
          simp [opsWr, hu] at this
        · obtain ⟨h2, f2⟩ := out i o ho s1 h1 h0
          exact A_first ho (Region.noSelect_spec hsel) (fun c a w hq => by cases hq.1) (allWait_ok hwait) fuel listed a w (Region.free_spec ho hfree) hcont (v := undef) (.inr ⟨hw, rfl⟩) (HeldS.refl w g F)
            (anyX_ok hC ops L hsel fuel (hz' i) hF h2 he fun s2 a2 w2 g2 hk2 hs2 hf2 => hQ s2 a2 w2 g2 hk2 hs2 (f2.trans hf2))
      · refine ⟨fun h0 => (by rw [hr] at h0; cases h0), fun i hi => ?_⟩
        rw [hr] at hi
        have he := manyX_some he i hi
        split at he
        · rename_i o ho
          unfold wpOp
          simp only [ho]
          cases hL : memN i L with
          | true =>
            rw [hL] at he
            obtain ⟨hrest, he⟩ := chk_some he
            have late : ∀ {S : World → Prop} {a' : Act} {w' : World}, wpAnyA P ops (fun e a w => e = .normal ∧ Q a w) S (fun i => !memN i L) fuel (listed.setIfInBounds i true) a' w' → wpAnyA P ops (fun e a w => e = .normal ∧ Q a w) (HeldS w g F) (fun i => !memN i L) fuel (listed.setIfInBounds i true) a' w' := fun hh =>
              A_late fuel _ _ _ (fun j hj hA => by
                by_cases e : i = j
                · subst e
                  rw [Array.getD_eq_getD_getElem?, Array.getElem?_setIfInBounds_self_of_lt (by omega)]; rfl
                · rw [Array.getD_eq_getD_getElem?, Array.getElem?_setIfInBounds_ne e, ← Array.getD_eq_getD_getElem?]; exact restListed_ok hrest j hj hA) (hz' i) hh
            rcases stepX_some h he with ⟨s1, h1, hw, ht, hd, he, _⟩ | ⟨s1, h1, hw, h0, he⟩
            · rw [if_pos hw]
              refine .inl (operX_ok hC h1 he fun s2 a2 w2 g2 hk2 hs2 hf2 hc2 => ?_)
              exact ⟨fun hA => by simp at hA, late (anyX_ok hC ops L hsel fuel (hz' i) (fun n hn => by simp at hn) hs2 hk2 fun s3 a3 w3 g3 hk3 hs3 hf3 => hQ s3 a3 w3 g3 hk3 hs3 ((hf2.weak (wr1 i o ho)).trans hf3))⟩
            · rw [if_neg (by rw [hw]; simp)]
              obtain ⟨h2, f2⟩ := out i o ho s1 h1 h0
              exact ⟨fun hA => by simp at hA, late (anyX_ok hC ops L hsel fuel (hz' i) (fun n hn => by simp at hn) h2 he fun s3 a3 w3 g3 hk3 hs3 hf3 => hQ s3 a3 w3 g3 hk3 hs3 (f2.trans hf3))⟩
          | false =>
            rw [hL] at he
            simp only [cond_false] at he
            rcases stepX_some h he with ⟨s1, h1, hw, ht, hd, he, _⟩ | ⟨s1, h1, hw, h0, he⟩
            · rw [if_pos hw]
              refine .inl (operX_ok hC h1 he fun s2 a2 w2 g2 hk2 hs2 hf2 hc2 => ?_)
              have step := HeldS.step h1 hF (noneIn_ok ht) hd hs2 hc2
              refine ⟨fun _ => step w2 (HeldS.refl _ _ _), A_mono step _ _ _ _ (anyX_ok hC ops L hsel fuel (hz' i) (fun n hn => hF n (stillIn_ok hn)) hs2 hk2 fun s3 a3 w3 g3 hk3 hs3 hf3 => hQ s3 a3 w3 g3 hk3 hs3 ((hf2.weak (wr1 i o ho)).trans hf3))⟩
            · rw [if_neg (by rw [hw]; simp)]
              obtain ⟨h2, f2⟩ := out i o ho s1 h1 h0
              have step := HeldS.step (d := RB) (T := []) h hF (fun n _ => by simp) (fun hm => Nat.lt_irrefl _ (hF RB hm)) h2 (Chg.refl RB [] w g)
              exact ⟨fun _ => HeldS.refl _ _ _, A_mono step _ _ _ _ (anyX_ok hC ops L hsel fuel (hz' i) (fun n hn => hF n (stillIn_ok hn)) h2 he fun s3 a3 w3 g3 hk3 hs3 hf3 => hQ s3 a3 w3 g3 hk3 hs3 (f2.trans hf3))⟩
        · cases he
/-! ### An order that is given -/
theorem testBit_lor2 (m i k : Nat) : Nat.testBit (Nat.lor m (2 ^ i)) k = (Nat.testBit m k || decide (i = k)) := by
  show Nat.testBit (m ||| 2 ^ i) k = _
  rw [Nat.testBit_or, Nat.testBit_two_pow]
theorem waitBits_ok : ∀ (l : List Edge) (k : Nat), Nat.testBit (waitBits l) k = true ↔ ∃ e ∈ l, Region.binds .any e = true ∧ e.on = k
  | [], k => by simp [waitBits]
  | e :: r, k => by
    have ih := waitBits_ok r k
    simp only [waitBits]
    cases hb : Region.binds .any e with
    | true =>
      simp only [cond_true]
      show Nat.testBit (2 ^ e.on ||| waitBits r) k = true ↔ _
      rw [Nat.testBit_or, Nat.testBit_two_pow, Bool.or_eq_true, ih, decide_eq_true_eq]
      constructor
      · rintro (h | ⟨e', he, h⟩)
        · exact ⟨e, by simp, hb, h⟩
        · exact ⟨e', by simp [he], h⟩
      · rintro ⟨e', he, h1, h2⟩
        rcases List.mem_cons.1 he with rfl | he
        · exact .inl h2
        · exact .inr ⟨e', he, h1, h2⟩
    | false =>
      simp only [cond_false]
      rw [ih]
      constructor
      · rintro ⟨e', he, h⟩; exact ⟨e', by simp [he], h⟩
      · rintro ⟨e', he, h1, h2⟩
        rcases List.mem_cons.1 he with rfl | he
        · rw [hb] at h1; cases h1
        · exact ⟨e', he, h1, h2⟩
theorem waitMasks_get : ∀ (l : List Oper) (i : Nat), (waitMasks l)[i]? = (l[i]?).map fun o => waitBits o.after.toList
  | [], i => by simp [waitMasks]
  | o :: r, 0 => by simp [waitMasks]
  | o :: r, i + 1 => by simp [waitMasks, waitMasks_get r i]
theorem nth_get0 {β : Type} : ∀ (l : List β) (i : Nat), nth l i = l[i]?
  | [], _ => by simp [nth]
  | x :: l, 0 => by simp [nth]
  | x :: l, i + 1 => by simp [nth, nth_get0 l i]
theorem land_eq {a m : Nat} : (Nat.beq (Nat.land a m) a = true) ↔ ∀ k, Nat.testBit a k = true → Nat.testBit m k = true := by
  rw [show (Nat.beq (Nat.land a m) a = true) = (Nat.land a m = a) from propext ⟨Nat.eq_of_beq_eq_true, fun h => by rw [h]; exact Nat.beq_refl a⟩]
  show (a &&& m = a) ↔ _
  constructor
  · intro h k hk
    rw [← h, Nat.testBit_and] at hk
    simp only [Bool.and_eq_true] at hk
    exact hk.2
  · intro h
    apply Nat.eq_of_testBit_eq
    intro k
    rw [Nat.testBit_and]
    cases ha : Nat.testBit a k with
    | false => rfl
    | true => rw [h k ha]; rfl
/-- The bits tell what is listed. -/
def Bits (m : Nat) (ops : Array Oper) (listed : Array Bool) : Prop := listed.size = ops.size ∧ ∀ i, listed.getD i false = Nat.testBit m i
theorem Bits.unlisted {m : Nat} {ops : Array Oper} {listed : Array Bool} (h : Bits m ops listed) {i : Nat} (hi : i < ops.size) : (listed.getD i true = false) ↔ Nat.testBit m i = false := by
  rw [← h.2 i]
  have : i < listed.size := by rw [h.1]; exact hi
  rw [Array.getD_eq_getD_getElem?, Array.getD_eq_getD_getElem?, Array.getElem?_eq_getElem this]
  simp
theorem ready_bits {m : Nat} {ops : Array Oper} {listed : Array Bool} (h : Bits m ops listed) {i : Nat} : i ∈ Region.ready .any ops listed ↔ ∃ a, (waitMasks ops.toList)[i]? = some a ∧ Nat.testBit m i = false ∧ Nat.beq (Nat.land a m) a = true := by
  rw [mem_ready]
  constructor
  · rintro ⟨h1, o, ho, hall⟩
    have hlt : i < ops.size := (Array.getElem?_eq_some_iff.1 ho).1
    refine ⟨waitBits o.after.toList, by rw [waitMasks_get]; simp [ho], (h.unlisted hlt).1 h1, land_eq.2 fun k hk => ?_⟩
    obtain ⟨e, he, hb, rfl⟩ := (waitBits_ok _ _).1 hk
    rw [← h.2]
    exact hall e (by simpa using he) hb
  · rintro ⟨a, ha, h1, h2⟩
    rw [waitMasks_get] at ha
    simp only [Array.getElem?_toList, Option.map_eq_some_iff] at ha
    obtain ⟨o, ho, rfl⟩ := ha
    have hlt : i < ops.size := (Array.getElem?_eq_some_iff.1 ho).1
    refine ⟨(h.unlisted hlt).2 h1, o, ho, fun e he hb => ?_⟩
    rw [h.2]
    exact land_eq.1 h2 _ ((waitBits_ok _ _).2 ⟨e, by simpa using he, hb, rfl⟩)
theorem onlyAt_ok {m i : Nat} : ∀ {A : List Nat} {j : Nat}, onlyAt m i j A = true → ∀ k a, A[k]? = some a → j + k ≠ i → Nat.testBit m (j + k) = false → Nat.beq (Nat.land a m) a = true → False
  | [], _, _, k, a, h, _, _, _ => by simp at h
  | b :: r, j, h, k, a, ha, hne, h1, h2 => by
    simp only [onlyAt, Bool.and_eq_true, Bool.or_eq_true] at h
    cases k with
    | zero =>
      simp only [List.getElem?_cons_zero, Option.some.injEq] at ha
      subst ha
      rcases h.1 with h | h | h
      · exact hne (Nat.eq_of_beq_eq_true h)
      · rw [Nat.add_zero] at h1; rw [h1] at h; cases h
      · rw [h2] at h; cases h
    | succ k => exact onlyAt_ok h.2 k a (by simpa using ha) (by omega) (by rw [show j + 1 + k = j + (k + 1) by omega]; exact h1) h2
theorem freeAt_ok {ops : Array Oper} {m i : Nat} {o : Oper} : ∀ {l : List Oper} {A : List Nat} {j : Nat}, freeAt ops m i o j l A = true → ∀ k p a, l[k]? = some p → A[k]? = some a → j + k ≠ i → Nat.testBit m (j + k) = false → Nat.testBit a i = false → o.apart ops p = true
  | [], _, _, _, k, p, a, h, _, _, _, _ => by simp at h
  | q :: r, [], j, h, _, _, _, _, _, _, _, _ => by simp [freeAt] at h
  | q :: r, b :: A, j, h, k, p, a, hp, ha, hne, h1, h2 => by
    simp only [freeAt, Bool.and_eq_true, Bool.or_eq_true] at h
    cases k with
    | zero =>
      simp only [List.getElem?_cons_zero, Option.some.injEq] at ha hp
      subst ha hp
      rcases h.1 with h | h | h | h
      · exact absurd (Nat.eq_of_beq_eq_true h) hne
      · rw [Nat.add_zero] at h1; rw [h1] at h; cases h
      · rw [h2] at h; cases h
      · exact h
    | succ k => exact freeAt_ok h.2 k p a (by simpa using hp) (by simpa using ha) (by omega) (by rw [show j + 1 + k = j + (k + 1) by omega]; exact h1) h2
theorem Bits.next {m : Nat} {ops : Array Oper} {listed : Array Bool} (h : Bits m ops listed) {i : Nat} (hi : i < ops.size) : Bits (Nat.lor m (2 ^ i)) ops (listed.setIfInBounds i true) := by
  refine ⟨by simpa using h.1, fun k => ?_⟩
  rw [testBit_lor2, ← h.2]
  by_cases e : i = k
  · subst e
    rw [Array.getD_eq_getD_getElem?, Array.getElem?_setIfInBounds_self_of_lt (by rw [h.1]; exact hi)]; simp
  · rw [Array.getD_eq_getD_getElem?, Array.getElem?_setIfInBounds_ne e, ← Array.getD_eq_getD_getElem?]; simp [e]
theorem lineX_ok (hC : CallerOk P X C) (ops : Array Oper) (hsel : Region.noSelect ops = true) : ∀ (q : List (Nat × Bool)) {m fuel : Nat} {F : List Nat} {listed : Array Bool} {s : St} {a : Act} {w : World} {g : Gh} {K : St → Option α} {Q : Act → World → Prop}, q.length ≤ fuel → Bits m ops listed → sched ops (waitMasks ops.toList) m q = true → (∀ n ∈ F, n < RB) → Sim X s a w g → lineX P X.N C ops q F s K = some x →
    (∀ s' a' w' g', K s' = some x → Sim X s' a' w' g' → Fut (fun t => opsWr t ops.toList) a w g a' w' g' → Q a' w') → wpAnyA P ops (fun e a w => e = .normal ∧ Q a w) (HeldS w g F) (fun i => !memN i []) fuel listed a w
  | [], m, fuel, F, listed, s, a, w, g, K, Q, _, hb, hsc, hF, h, he, hQ => by
    simp only [lineX] at he
    have hr : Region.ready .any ops listed = [] := by
      cases hr : Region.ready .any ops listed with
      | nil => rfl
      | cons i r =>
        obtain ⟨a', ha, h1, h2⟩ := (ready_bits hb).1 (by rw [hr]; exact List.mem_cons_self ..)
        have hlt : i < ops.size := by
          rw [waitMasks_get] at ha
          simp only [Array.getElem?_toList, Option.map_eq_some_iff] at ha
          obtain ⟨o, ho, _⟩ := ha
          exact (Array.getElem?_eq_some_iff.1 ho).1
        exact absurd (onlyAt_ok (j := 0) hsc i a' ha (by omega) (by simpa using h1) h2) id
    exact A_done hr ⟨rfl, hQ s a w g he h (Fut.refl _ _ _ _)⟩ _
  | (i, p) :: r, m, 0, _, _, _, _, _, _, _, _, hf, _, _, _, _, _, _ => by simp at hf
  | (i, p) :: r, m, fuel + 1, F, listed, s, a, w, g, K, Q, hfu, hb, hsc, hF, h, he, hQ => by
    have hfl : r.length ≤ fuel := by simpa using hfu
    have wr1 : ∀ (i : Nat) (o : Oper), ops[i]? = some o → ∀ t, opsWr t ops.toList = false → opsWr t [o] = false := fun i o ho t ht => by
      have hmem : o ∈ ops.toList := by
        have : ops.toList[i]? = some o := by simpa using ho
        exact List.mem_of_getElem? this
      have gen : ∀ l : List Oper, o ∈ l → opsWr t l = false → opsWr t [o] = false := fun l => by
        induction l with
        | nil => intro h; simp at h
        | cons y l ih =>
          intro hm hw
          simp only [opsWr, Bool.or_eq_false_iff] at hw
          rcases List.mem_cons.1 hm with e | hm
          · subst e; simp only [opsWr, Bool.or_false]; exact hw.1
          · exact ih hm hw.2
      exact gen _ hmem ht
    have out : ∀ (i : Nat) (o : Oper), ops[i]? = some o → ∀ (s1 : St), Sim X s1 a w g → dstOk X.N o.dst = true → Sim X (s1.put o.dst .undef) (a.put o.dst undef) w g ∧ Fut (fun t => opsWr t ops.toList) a w g (a.put o.dst undef) w g := fun i o ho s1 h1 h0 => by
      refine ⟨h1.put (v := .undef) (cv := undef) (dstOk_lt h0) rfl, fun t ht => put_slot fun u hu e => ?_, OkMv.refl w g, Nm.refl g⟩
      subst e
      have := wr1 i o ho u ht
      simp [opsWr, hu] at this
    simp only [sched, Bool.and_eq_true] at hsc
    obtain ⟨hra, hkind, hrest⟩ := hsc
    simp only [readyAt] at hra
    rw [nth_get0] at hra
    split at hra
    · rename_i am ham
      simp only [Bool.and_eq_true, Bool.not_eq_true'] at hra
      have hcont : i ∈ Region.ready .any ops listed := (ready_bits hb).2 ⟨am, ham, hra.1, hra.2⟩
      have hlt : i < ops.size := by
        rw [waitMasks_get] at ham
        simp only [Array.getElem?_toList, Option.map_eq_some_iff] at ham
        obtain ⟨o, ho, _⟩ := ham
        exact (Array.getElem?_eq_some_iff.1 ho).1
      have hb' := hb.next hlt
      simp only [lineX] at he
      split at he
      · rename_i o ho
        cases p with
        | true =>
          simp only [cond_true] at he hkind
          obtain ⟨hcan, he⟩ := chk_some he
          simp only [canTake, Bool.and_eq_true, Bool.not_eq_true'] at hcan
          rw [ho] at hkind
          simp only at hkind
          have hfree : ∀ j oj, ops[j]? = some oj → j ≠ i → listed.getD j true = false → (∀ e ∈ oj.after, Region.binds .any e = true → e.on ≠ i) → o.apart ops oj = true := fun j oj hoj hji hun hno => by
            have hjl : j < ops.size := (Array.getElem?_eq_some_iff.1 hoj).1
            refine freeAt_ok (j := 0) hkind j oj (waitBits oj.after.toList) (by simpa using hoj) (by rw [waitMasks_get]; simp [hoj]) (by omega) (by rw [Nat.zero_add]; exact (hb.unlisted hjl).1 hun) ?_
            cases hh : Nat.testBit (waitBits oj.after.toList) i with
            | false => rfl
            | true =>
              obtain ⟨e, he', hbb, hon⟩ := (waitBits_ok _ _).1 hh
              exact absurd hon (hno e (by simpa using he') hbb)
          have hAll : ∀ j, (!memN j []) = false → waits ops i j = true := fun j hj => by simp [memN] at hj
          rcases stepX_some h he with ⟨s1, h1, hw, ht, hd, he, hy⟩ | ⟨s1, h1, hw, h0, he⟩
          · unfold operX opX at he
            replace he := chk_some he
            obtain ⟨h0, he⟩ := he
            rw [hcan.1, hcan.2.1] at he
            simp only [cond_false] at he
            obtain ⟨v, cv, q1, q2, q3⟩ := valX_ok h1 he
            refine A_first ho (Region.noSelect_spec hsel) (fun c a w hq => by cases hq.1) hAll fuel listed a w hfree hcont (v := cv) (.inl ⟨hw, fun w' hw' => q2 w' (fun k hk hlt => hw' k (hk.imp_right fun ⟨n, hn, h3⟩ => ⟨n, allIn_ok hcan.2.2 n (opd_put_reads hy.1 hy.2 o.op n hn), h3⟩) hlt) o rfl⟩) (HeldS.refl w g F)
              (lineX_ok hC ops hsel r hfl hb' hrest hF (h1.put (dstOk_lt h0) q3) q1 fun s2 a2 w2 g2 hk2 hs2 hf2 => hQ s2 a2 w2 g2 hk2 hs2 (Fut.trans ⟨fun t ht => put_slot fun u hu e => ?_, OkMv.refl w g, Nm.refl g⟩ hf2))
            subst e
            have := wr1 i o ho u ht
            simp [opsWr, hu] at this
          · obtain ⟨h2, f2⟩ := out i o ho s1 h1 h0
            exact A_first ho (Region.noSelect_spec hsel) (fun c a w hq => by cases hq.1) hAll fuel listed a w hfree hcont (v := undef) (.inr ⟨hw, rfl⟩) (HeldS.refl w g F)
              (lineX_ok hC ops hsel r hfl hb' hrest hF h2 he fun s2 a2 w2 g2 hk2 hs2 hf2 => hQ s2 a2 w2 g2 hk2 hs2 (f2.trans hf2))
        | false =>
          simp only [cond_false] at he hkind
          refine ⟨fun h0 => (by rw [h0] at hcont; cases hcont), fun j hj => ?_⟩
          have hji : j = i := by
            obtain ⟨a', ha, h1, h2⟩ := (ready_bits hb).1 hj
            rcases Nat.lt_trichotomy j i with hlt | e | hlt
            · exact absurd (onlyAt_ok (j := 0) hkind j a' ha (by omega) (by simpa using h1) h2) id
            · exact e
            · exact absurd (onlyAt_ok (j := 0) hkind j a' ha (by omega) (by simpa using h1) h2) id
          subst hji
          unfold wpOp
          simp only [ho]
          rcases stepX_some h he with ⟨s1, h1, hw, ht, hd, he, _⟩ | ⟨s1, h1, hw, h0, he⟩
          · rw [if_pos hw]
            refine .inl (operX_ok hC h1 he fun s2 a2 w2 g2 hk2 hs2 hf2 hc2 => ?_)
            have step := HeldS.step h1 hF (noneIn_ok ht) hd hs2 hc2
            refine ⟨fun _ => step w2 (HeldS.refl _ _ _), A_mono step _ _ _ _ (lineX_ok hC ops hsel r hfl hb' hrest (fun n hn => hF n (stillIn_ok hn)) hs2 hk2 fun s3 a3 w3 g3 hk3 hs3 hf3 => hQ s3 a3 w3 g3 hk3 hs3 ((hf2.weak (wr1 j o ho)).trans hf3))⟩
          · rw [if_neg (by rw [hw]; simp)]
            obtain ⟨h2, f2⟩ := out j o ho s1 h1 h0
            have step := HeldS.step (d := RB) (T := []) h hF (fun n _ => by simp) (fun hm => Nat.lt_irrefl _ (hF RB hm)) h2 (Chg.refl RB [] w g)
            exact ⟨fun _ => HeldS.refl _ _ _, A_mono step _ _ _ _ (lineX_ok hC ops hsel r hfl hb' hrest (fun n hn => hF n (stillIn_ok hn)) h2 he fun s3 a3 w3 g3 hk3 hs3 hf3 => hQ s3 a3 w3 g3 hk3 hs3 (f2.trans hf3))⟩
      · cases he
    · cases hra
theorem line_ok (hC : CallerOk P X C) {id : Nat} {ops : Array Oper} {D : List Nat} {q : List (Nat × Bool)} {K : St → Option α} {Q : Exit → Act → World → Prop} (h : Sim X s a w g) (he : lineDX P X.N C ops D q s K = some x)
    (hQ : ∀ s' a' w' g', K s' = some x → Sim X s' a' w' g' → Fut (fun t => opsWr t ops.toList) a w g a' w' g' → Q .normal a' w') : (Code.region id ops true).wp P Q a w := by
  unfold lineDX at he
  obtain ⟨h0, he⟩ := chk_some he
  simp only [Bool.and_eq_true] at h0
  have hd := h.drew
  have hbits : Bits 0 ops (Array.replicate ops.size false) := ⟨by simp, fun i => by
    rw [Nat.zero_testBit, Array.getD_eq_getD_getElem?, Array.getElem?_replicate]
    split <;> rfl⟩
  refine Code.wp_mono (Q := fun e a w => e = .normal ∧ Q .normal a w) (fun e a w hq => by rw [hq.1]; exact hq.2) (wp_region_any h0.1.1 (any_of_A _ _ _ _ (lineX_ok hC ops h0.1.2 q (Nat.le_of_ble_eq_true h0.2.1) hbits h0.2.2 hkeys_lt hd he fun s1 a1 w1 g1 hk hs hf => hQ s1 a1 w1 g1 hk hs ⟨hf.slot, fun k hk hlt => hf.ok k hk hlt, hf.nm⟩)))
theorem draw_ok (hC : CallerOk P X C) {id : Nat} {ops : Array Oper} {D L : List Nat} {K : St → Option α} {Q : Exit → Act → World → Prop} (h : Sim X s a w g) (he : drawX P X.N C ops D L s K = some x)
    (hQ : ∀ s' a' w' g', K s' = some x → Sim X s' a' w' g' → Fut (fun t => opsWr t ops.toList) a w g a' w' g' → Q .normal a' w') : (Code.region id ops true).wp P Q a w := by
  unfold drawX at he
  obtain ⟨h0, he⟩ := chk_some he
  simp only [Bool.and_eq_true] at h0
  have hd := h.drew
  refine Code.wp_mono (Q := fun e a w => e = .normal ∧ Q .normal a w) (fun e a w hq => by rw [hq.1]; exact hq.2) (wp_region_any h0.1 (any_of_A _ _ _ _ (anyX_ok hC ops L h0.2 _ (by simp) hkeys_lt hd he fun s1 a1 w1 g1 hk hs hf => hQ s1 a1 w1 g1 hk hs ⟨hf.slot, fun k hk hlt => hf.ok k hk hlt, hf.nm⟩)))
theorem refine_ok (h : Sim X s a w g) {y : Operand} {b : Bool} (hb : a.eval y = .bool b) : Sim X (refine s y b) a w g := by
  cases y with
  | tmp t => exact h.reput (t := t) (v := .bool b) hb
  | _ => exact h
theorem pass_some {β : Type} {hs : List (Nat × Nat × Sh)} {F : HT hs → Option β} {y : β} (hS : Sim X s a w g) (h : pass s hs F = some y) : ∃ s1 z p g1, Sim X s1 a w g1 ∧ (∀ D, Fut D a w g a w g1) ∧ gets s1 hs = some (z, p) ∧ okP p (fillHeap hs z) = true ∧ F z = some y := by
  unfold pass at h
  split at h
  · rename_i s1 hs1
    obtain ⟨g1, h1, h2, h3⟩ := prep_ok hS hs1
    split at h
    · rename_i z p hz
      obtain ⟨h4, h5⟩ := chk_some h
      exact ⟨s1, z, p, g1, h1, fun D => ⟨fun _ _ => rfl, h2, h3⟩, hz, h4, h5⟩
    · cases h
  · cases h
/-- One way that meets others. -/
theorem way_ok {hs : List (Nat × Nat × Sh)} {D : Nat → Bool} {K : AEx → St → Option α} {y : HT hs ⊕ α} {e : AEx} {s1 : St} {a1 : Act} {w1 : World} {g1 : Gh} {Q : Exit → Act → World → Prop} (h : Sim X s a w g)
    (he : (match e with
      | .normal => pass s1 hs fun x => some (.inl x)
      | .exit id => (K (.exit id) s1).map .inr
      | .ret => (K .ret s1).map .inr) = some y) (hm : met (some y) (fun y => K .normal (fill (keep D s.env) hs y)) = some x)
    (h1 : Sim X s1 a1 w1 g1) (f1 : Fut D a w g a1 w1 g1) (hQ : ∀ e s' a' w' g', K e s' = some x → Sim X s' a' w' g' → Fut D a w g a' w' g' → Q e.up a' w') : Q e.up a1 w1 := by
  have other : ∀ e' : AEx, (K e' s1).map Sum.inr = some y → Q e'.up a1 w1 := fun e' he => by
    cases hk : K e' s1 with
    | none => rw [hk] at he; cases he
    | some x' =>
      rw [hk] at he
      simp only [Option.map_some, Option.some.injEq] at he
      subst he
      simp only [met, Option.some.injEq] at hm
      subst hm
      exact hQ e' s1 a1 w1 g1 hk h1 f1
  cases e with
  | normal =>
    obtain ⟨s1', z, p, g1', h1', f1', hz, hu, hy⟩ := pass_some h1 he
    simp only [Option.some.injEq] at hy
    subst hy
    simp only [met] at hm
    have f1 := f1.trans (f1' D)
    obtain ⟨g2, h2, f2⟩ := Sim.fill h f1 h1' hz hu
    exact hQ .normal _ a1 w1 g2 hm h2 (f1.trans f2)
  | exit id => exact other (.exit id) he
  | ret => exact other .ret he
theorem met_some {β : Type} {o : Option (β ⊕ α)} {F : β → Option α} (h : met o F = some x) : ∃ y, o = some y ∧ met (some y) F = some x := by
  cases o with
  | none => cases h
  | some y => exact ⟨y, rfl, h⟩
theorem least {p : Nat → Prop} : ∀ n, p n → ∃ m, p m ∧ m ≤ n ∧ ∀ q, p q → m ≤ q := by
  intro n
  induction n using Nat.strongRecOn with
  | _ n ih =>
    intro hn
    by_cases h : ∃ q, q < n ∧ p q
    · obtain ⟨q, hq, hp⟩ := h
      obtain ⟨m, h1, h2, h3⟩ := ih q hq hp
      exact ⟨m, h1, by omega, h3⟩
    · refine ⟨n, hn, Nat.le_refl _, fun q hq => ?_⟩
      rcases Nat.lt_or_ge q n with hlt | hge
      · exact absurd ⟨q, hlt, hq⟩ h
      · exact hge
theorem reg_ok (hC : CallerOk P X C) {id : Nat} {ops : Array Oper} {draw : Bool} {A : Ann} {α : Type} {s : St} {a : Act} {w : World} {g : Gh} {x : α} {K : AEx → St → Option α} {Q : Exit → Act → World → Prop} (h : Sim X s a w g) (he : regX P X.N C ops draw A s K = some x)
    (hQ : ∀ e s' a' w' g', K e s' = some x → Sim X s' a' w' g' → Fut (wr (.region id ops draw)) a w g a' w' g' → Q e.up a' w') : (Code.region id ops draw).wp P Q a w := by
    unfold regX at he
    cases draw with
    | true =>
      have plain : ∀ D L, drawX P X.N C ops D L s (K .normal) = some x → (Code.region id ops true).wp P Q a w := fun D L he => draw_ok hC h he fun s1 a1 w1 g1 he1 h1 f1 => hQ .normal s1 a1 w1 g1 he1 h1 f1
      cases A with
      | d D L hs =>
        simp only [cond_true] at he
        obtain ⟨y', hy, hm⟩ := met_some he
        refine draw_ok hC h hy fun s1 a1 w1 g1 he1 h1 f1 => way_ok (e := .normal) (K := K) h he1 hm h1 f1 hQ
      | e D L => exact plain D L (by simpa only [cond_true] using he)
      | f D q hs =>
        simp only [cond_true] at he
        obtain ⟨y', hy, hm⟩ := met_some he
        refine line_ok hC h hy fun s1 a1 w1 g1 he1 h1 f1 => way_ok (e := .normal) (K := K) h he1 hm h1 f1 hQ
      | _ => exact plain [] [] (by simpa only [cond_true] using he)
    | false =>
      have plain : opsX P X.N C ops.toList ops.toList s (K .normal) = some x → (Code.region id ops false).wp P Q a w := fun he => region_ok hC h he fun s1 a1 w1 g1 he1 h1 f1 => hQ .normal s1 a1 w1 g1 he1 h1 f1
      cases A with
      | r hs =>
        simp only [cond_false] at he
        obtain ⟨y', hy, hm⟩ := met_some he
        refine region_ok hC h hy fun s1 a1 w1 g1 he1 h1 f1 => way_ok (e := .normal) (K := K) h he1 hm h1 f1 hQ
      | _ => exact plain (by simpa only [cond_false] using he)
theorem exec_ok (hC : CallerOk P X C) (k : Nat) : ∀ (c : Code) (A : Ann) {α : Type} {s : St} {a : Act} {w : World} {g : Gh} {x : α} {K : AEx → St → Option α} {Q : Exit → Act → World → Prop}, Sim X s a w g → exec P X.N C k c A α s K = some x →
    (∀ e s' a' w' g', K e s' = some x → Sim X s' a' w' g' → Fut (wr c) a w g a' w' g' → Q e.up a' w') → c.wp P Q a w := by
  intro c
  induction c with
  | skip => exact fun A α s a w g x K Q h he hQ => wp_skip (hQ .normal s a w g he h (Fut.refl _ _ _ _))
  | exit id => exact fun A α s a w g x K Q h he hQ => wp_exit (hQ (.exit id) s a w g he h (Fut.refl _ _ _ _))
  | ret => exact fun A α s a w g x K Q h he hQ => wp_ret (hQ .ret s a w g he h (Fut.refl _ _ _ _))
  | seq c d ihc ihd =>
    intro A α s a w g x K Q h he hQ
    simp only [exec] at he
    refine wp_seq (ihc A.fst h he fun e s1 a1 w1 g1 he1 h1 f1 => ?_)
    have f1' : Fut (wr (.seq c d)) a w g a1 w1 g1 := f1.weak fun t ht => by simp only [wr, Bool.or_eq_false_iff] at ht; exact ht.1
    cases e with
    | normal => exact ihd A.snd h1 he1 fun e s2 a2 w2 g2 he2 h2 f2 => hQ e s2 a2 w2 g2 he2 h2 (f1'.trans (f2.weak fun t ht => by simp only [wr, Bool.or_eq_false_iff] at ht; exact ht.2))
    | exit id => exact hQ (.exit id) s1 a1 w1 g1 he1 h1 f1'
    | ret => exact hQ .ret s1 a1 w1 g1 he1 h1 f1'
  | cond y c d ihc ihd =>
    intro A α s a w g x K Q h he hQ
    have wc : ∀ t, wr (.cond y c d) t = false → wr c t = false := fun t ht => by simp only [wr, Bool.or_eq_false_iff] at ht; exact ht.1
    have wd : ∀ t, wr (.cond y c d) t = false → wr d t = false := fun t ht => by simp only [wr, Bool.or_eq_false_iff] at ht; exact ht.2
    simp only [exec] at he
    split at he
    · rename_i b hb
      have hv := h.opd y
      rw [hb] at hv
      have hv : a.eval y = .bool b := hv
      have plain : (cond b (exec P X.N C k c A.fst α (refine s y true) K) (exec P X.N C k d A.snd α (refine s y false) K)) = some x → (Code.cond y c d).wp P Q a w := fun he => by
        refine wp_cond hv ?_
        cases b with
        | true => exact ihc A.fst (refine_ok h hv) he fun e s1 a1 w1 g1 he1 h1 f1 => hQ e s1 a1 w1 g1 he1 h1 (f1.weak wc)
        | false => exact ihd A.snd (refine_ok h hv) he fun e s1 a1 w1 g1 he1 h1 f1 => hQ e s1 a1 w1 g1 he1 h1 (f1.weak wd)
      cases A with
      | j hs A B =>
        simp only at he
        refine wp_cond hv ?_
        cases b with
        | true =>
          obtain ⟨y', hy, hm⟩ := met_some he
          exact ihc A (refine_ok h hv) hy fun e s1 a1 w1 g1 he1 h1 f1 => way_ok h he1 hm h1 (f1.weak fun t ht => by simp only [Bool.or_eq_false_iff] at ht; exact ht.1) hQ
        | false =>
          obtain ⟨y', hy, hm⟩ := met_some he
          exact ihd B (refine_ok h hv) hy fun e s1 a1 w1 g1 he1 h1 f1 => way_ok h he1 hm h1 (f1.weak fun t ht => by simp only [Bool.or_eq_false_iff] at ht; exact ht.2) hQ
      | _ => exact plain he
    · cases he
  | block id c ihc =>
    intro A α s a w g x K Q h he hQ
    have plain : exec P X.N C k c A.fst α s (fun e s => match e with
      | .normal => K .normal s
      | .exit i => bif Nat.beq i id then K .normal s else K (.exit i) s
      | .ret => K .ret s) = some x → (Code.block id c).wp P Q a w := fun he => by
      refine wp_block (ihc A.fst h he fun e s1 a1 w1 g1 he1 h1 f1 => ?_)
      cases e with
      | normal => exact hQ .normal s1 a1 w1 g1 he1 h1 f1
      | exit i =>
        simp only at he1
        show Exit.inBlock id Q (.exit i) a1 w1
        unfold Exit.inBlock
        by_cases hi : i = id
        · subst hi
          rw [Nat.beq_refl] at he1
          simp only [if_true]
          exact hQ .normal s1 a1 w1 g1 he1 h1 f1
        · rw [beq_ne hi] at he1
          simp only [if_neg hi]
          exact hQ (.exit i) s1 a1 w1 g1 he1 h1 f1
      | ret => exact hQ .ret s1 a1 w1 g1 he1 h1 f1
    cases A with
    | m hs A =>
      simp only [exec] at he
      obtain ⟨y', hy, hm⟩ := met_some he
      refine wp_block (ihc A h hy fun e s1 a1 w1 g1 he1 h1 f1 => ?_)
      cases e with
      | normal => exact way_ok (e := .normal) (K := K) (Q := Q) h he1 hm h1 f1 hQ
      | exit i =>
        simp only at he1
        show Exit.inBlock id Q (.exit i) a1 w1
        unfold Exit.inBlock
        by_cases hi : i = id
        · subst hi
          rw [Nat.beq_refl] at he1
          simp only [if_true]
          exact way_ok (e := .normal) (K := K) h he1 hm h1 f1 hQ
        · rw [beq_ne hi] at he1
          simp only [if_neg hi]
          exact way_ok (e := .exit i) (K := K) h he1 hm h1 f1 hQ
      | ret => exact way_ok (e := .ret) (K := K) (Q := Q) h he1 hm h1 f1 hQ
    | _ => exact plain (by simpa only [exec] using he)
  | loop c ihc =>
    intro A α s a w g x K Q h he hQ
    cases A with
    | l hs A =>
      simp only [exec] at he
      obtain ⟨s0', z0, p0, g0', h0', f0', hz0, hu0, he⟩ := pass_some h he
      generalize hF : (fun (rec : HT hs → Option α) (x : HT hs) => exec P X.N C k c A α (fill (keep (wr c) s.env) hs x) fun e s => match e with
        | .normal => pass s hs rec
        | .exit id => K (.exit id) s
        | .ret => K .ret s) = F at he
      let J : Nat → Act → World → Prop := fun n a' w' => ∃ z g', iter n F z = some x ∧ Sim X (fill (keep (wr c) s.env) hs z) a' w' g' ∧ Fut (wr c) a w g a' w' g'
      have hJ : ∀ a' w', (∃ n, J n a' w') → ∃ m, J m a' w' ∧ ∀ q, J q a' w' → m ≤ q := fun a' w' ⟨n, hn⟩ => by
        obtain ⟨m, h1, _, h3⟩ := least (p := fun n => J n a' w') n hn
        exact ⟨m, h1, h3⟩
      refine wp_loop (I := fun a' w' => ∃ n, J n a' w') (μ := fun a' w' => open Classical in if hh : ∃ n, J n a' w' then (hJ a' w' hh).choose else 0) ?_ ?_
      · obtain ⟨g1, h1, f1⟩ := Sim.fill h (f0' (wr c)) h0' hz0 hu0
        exact ⟨k, z0, g1, he, h1, (f0' (wr c)).trans f1⟩
      · intro a' w' hI
        obtain ⟨⟨z, g', hi, hs', hf⟩, hmin⟩ := (hJ a' w' hI).choose_spec
        generalize hm : (hJ a' w' hI).choose = m at hi hmin
        cases m with
        | zero => cases hi
        | succ m =>
          have hx : F (iter m F) z = some x := hi
          rw [← hF] at hx
          refine ihc A hs' hx fun e s1 a1 w1 g1 he1 h1 f1 => ?_
          have f2 := hf.trans f1
          cases e with
          | normal =>
            rw [hF] at he1
            obtain ⟨s1', z1, p1, g1', h1', f1', hz1, hu1, he1⟩ := pass_some h1 he1
            have f2 := f2.trans (f1' (wr c))
            obtain ⟨g2, h2, f3⟩ := Sim.fill h f2 h1' hz1 hu1
            have hn : J m a1 w1 := ⟨z1, g2, he1, h2, f2.trans f3⟩
            refine ⟨⟨m, hn⟩, ?_⟩
            simp only [dif_pos hI, dif_pos (⟨m, hn⟩ : ∃ n, J n a1 w1), hm]
            have := (hJ a1 w1 ⟨m, hn⟩).choose_spec.2 m hn
            omega
          | exit id => exact hQ (.exit id) s1 a1 w1 g1 he1 h1 f2
          | ret => exact hQ .ret s1 a1 w1 g1 he1 h1 f2
    | _ => simp [exec] at he
  | region id ops draw =>
    intro A α s a w g x K Q h he hQ
    cases A with
    | z ts A =>
      simp only [exec] at he
      split at he
      · rename_i s1 hz
        obtain ⟨g1, h1, f1⟩ := frzNames_ok h hz
        have fu : Fut (wr (.region id ops draw)) a w g a w g1 := ⟨fun _ _ => rfl, f1.okMv, f1.nm⟩
        exact reg_ok hC h1 he fun e s2 a2 w2 g2 he2 h2 f2 => hQ e s2 a2 w2 g2 he2 h2 (fu.trans f2)
      · cases he
    | _ => exact reg_ok hC h (by simpa only [exec] using he) hQ
  | _ => intro A α s a w g x K Q h he hQ; simp [exec] at he
end
end Go.Proofs.YthgmnlfbgajchaaV
