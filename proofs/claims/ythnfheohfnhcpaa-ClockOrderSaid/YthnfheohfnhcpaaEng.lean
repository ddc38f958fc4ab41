/- The walk of one goroutine that holds the token, said by what follows: an engine whose rules do not count steps. -/
import Derived.Test.YthnfheohfnhcpaaSem
import Derived.Conc.Company
import Derived.Conc.CompanyCalls
set_option linter.unusedSimpArgs false
set_option linter.unusedVariables false
namespace Go.Proofs.Ythnfheohfnhcpaa.Y
open Go Go.Conc

/-- No marks but 'no room'. -/
def NoMark (es : Array Event) : Prop := ∀ e ∈ es, ∀ m, e.loc = .mark m → m = .noRoom
/-- A mark that is no touch. -/
def Quiet : Mark → Prop
  | .read _ | .write _ => False
  | _ => True
/-- WHAT A STEP MAY DO: it writes no still cell, leaves the channels as they are. -/
structure Ok (St : Addr → Prop) (w w' : World) (es : Array Event) : Prop where
  ev : ∀ e ∈ es, ∀ a, e.loc = .cell a → e.write = true → ¬ St a
  mute : ∀ e ∈ es, ∀ m, e.loc = .mark m → Quiet m
  cell : ∀ a, St a → (w.cell? a).isSome → w'.cell? a = w.cell? a ∧ w'.frozen? a = w.frozen? a
  chan : ∀ (c cap : Nat) (buf : Array Value) (cl : Bool) (s r : Nat) (tm : Bool), w.heap[c]? = some (Obj.chan cap buf cl s r tm) → w'.heap[c]? = w.heap[c]?
  low : ∀ e ∈ es, (MemAct.ofEvent e).low w'.heap.size
  grow : w.heap.size ≤ w'.heap.size

theorem Ext.cell {w w' : World} (h : Ext w w') {a : Addr} (ha : a.block < w.heap.size) : w'.cell? a = w.cell? a := by
  unfold World.cell?; rw [h.block _ ha]
theorem Ext.frozen {w w' : World} (h : Ext w w') {a : Addr} (ha : a.block < w.heap.size) : w'.frozen? a = w.frozen? a := by
  unfold World.frozen?; rw [h.block _ ha]
theorem Ok.of_ext {St : Addr → Prop} {w w' : World} {es : Array Event} (h : Ext w w') (he : ∀ e ∈ es, Rd e) (hl : ∀ e ∈ es, (MemAct.ofEvent e).low w'.heap.size) : Ok St w w' es := by
  refine ⟨fun e hm a _ hw => ?_, fun e hm m hl => ?_, fun a _ hs => ?_, fun c cap buf cl s r tm hc => ?_, hl, h.size⟩
  · rw [(he e hm).1] at hw; cases hw
  · rw [(he e hm).2.2.2 m hl]; trivial
  · obtain ⟨v, hv⟩ := Option.isSome_iff_exists.1 hs
    have hlt := World.block_lt_of_cell? w a hv
    exact ⟨h.cell hlt, h.frozen hlt⟩
  · exact h.block c (Array.getElem?_eq_some_iff.1 hc).1
theorem Ok.at {St : Addr → Prop} {w w' : World} {es : Array Event} (h : Ok St w w' es) (d d' : Nat) : Ok St (w.at d) (w'.at d') es := ⟨h.ev, h.mute, h.cell, h.chan, h.low, h.grow⟩
theorem Ok.refl (St : Addr → Prop) (w : World) : Ok St w w #[] := .of_ext (.refl w) (by simp) (by simp)
theorem Ok.sub {St : Addr → Prop} {w w' : World} {es es' : Array Event} (h : Ok St w w' es) (hs : ∀ e ∈ es', e ∈ es) : Ok St w w' es' :=
  ⟨fun e he => h.ev e (hs e he), fun e he => h.mute e (hs e he), h.cell, h.chan, fun e he => h.low e (hs e he), h.grow⟩
theorem NoMark.sub {es es' : Array Event} (h : NoMark es) (hs : ∀ e ∈ es', e ∈ es) : NoMark es' := fun e he => h e (hs e he)
theorem noMark_of_rd {es : Array Event} (he : ∀ e ∈ es, Rd e) : NoMark es := fun e hm m hl => (he e hm).2.2.2 m hl
theorem noMark_nil : NoMark #[] := by simp [NoMark]

/-- AN ENGINE: what is known of a goroutine that may go on ('Run', in a ghost state), closed under its own steps. -/
structure Eng (P : Program) (S : Type) where
  main : Bool
  Run : S → Goroutine → World → Prop
  still : S → Addr → Prop
  mayMark : S → Prop
  after : S → Array Event → S
  after_nm : ∀ σ es, NoMark es → after σ es = σ
  after_pair : ∀ σ, after (after σ #[⟨.mark .disable, false, true⟩]) #[⟨.mark .enable, false, true⟩] = σ
  after_other : ∀ σ m, m ≠ .disable → m ≠ .enable → after σ #[⟨.mark m, false, true⟩] = σ
  mayMark_after : ∀ σ es, mayMark σ → mayMark (after σ es)
  still_after : ∀ σ es, still (after σ es) = still σ
  rel : ∀ {σ : S} {g : Goroutine} {w : World}, Run σ g w → ∀ d, Run σ g (w.at d)
  step : ∀ {σ : S} {g : Goroutine} {w : World}, g.status = .running →
    (∀ d, ∃ g' w' es, stepG P main g (w.at d) = .go g' w' es ∧ Ok (still σ) (w.at d) w' es ∧ (NoMark es ∨ mayMark σ) ∧ Run (after σ es) g' w') → Run σ g w

section
variable {P : Program} {S : Type} {E : Eng P S}

/-- A step of control: the same in every world, nothing listed. -/
theorem Eng.ctl {σ : S} {g g' : Goroutine} {w : World} (hs : g.status = .running) (h : ∀ w, stepG P E.main g w = .go g' w #[]) (hr : E.Run σ g' w) : E.Run σ g w :=
  E.step hs fun d => ⟨g', w.at d, #[], h _, .refl _ _, .inl noMark_nil, by
    rw [E.after_nm σ #[] noMark_nil]; exact E.rel hr d⟩

/-- Where the walk goes on behind a piece of code. -/
def AfterY (E : Eng P S) (σ : S) (b : Frame) (k : List Item) (cs : List Frame) : Exit → Act → World → Prop
  | .normal, a, w => E.Run σ (G (b.at a k) cs) w
  | .exit id, a, w => ∃ k', exitTo id k = some k' ∧ E.Run σ (G (b.at a k') cs) w
  | .ret, a, w => ∀ todo, E.Run σ (G { b.at a todo with mode := .returning } cs) w
  | .panic ch, a, w => ∀ todo, E.Run σ (G { b.at a todo with mode := .panicking ch } cs) w
  | _, _, _ => False
theorem AfterY.push {σ : S} {b : Frame} {x : Item} {k : List Item} {cs : List Frame} {e : Exit} {a : Act} {w : World} (hx : x.plain = true) (he : e ≠ .normal)
    (h : AfterY E σ b k cs e a w) : AfterY E σ b (x :: k) cs e a w := by
  cases e with
  | normal => exact absurd rfl he
  | exit id => obtain ⟨k', hk, hg⟩ := h; exact ⟨k', by cases x <;> simp_all [exitTo, Item.plain], hg⟩
  | ret => exact h
  | goto l => exact h
  | panic ch => exact h
  | outgrown => exact h

/-- THE JUDGEMENT ON A PIECE OF CODE. -/
def CodeY (E : Eng P S) (fn : FuncId) (c : Code) (Q : S → Exit → Act → World → Prop) (σ : S) (a : Act) (w : World) : Prop :=
  ∀ (b : Frame) (k : List Item) (cs : List Frame), b.fn = fn → b.kind ≠ .early →
    (∀ σ' e a' w', Q σ' e a' w' → AfterY E σ' b k cs e a' w') → E.Run σ (G (b.at a (.code c :: k)) cs) w
/-- .. and on the operations of a region that are still to come, in this order. -/
def OpsY (E : Eng P S) (fn : FuncId) (ops : Array Oper) (todo : List Nat) (Q : S → Exit → Act → World → Prop) (σ : S) (a : Act) (w : World) : Prop :=
  ∀ (b : Frame) (k : List Item) (cs : List Frame), b.fn = fn → b.kind ≠ .early →
    (∀ σ' e a' w', Q σ' e a' w' → AfterY E σ' b k cs e a' w') → E.Run σ (G (b.at a (.inRegion ops todo :: k)) cs) w

variable {fn : FuncId} {Q : S → Exit → Act → World → Prop} {σ : S} {a : Act} {w : World}
theorem codeY_mono {c : Code} {Q' : S → Exit → Act → World → Prop} (h : CodeY E fn c Q σ a w) (hq : ∀ σ e a w, Q σ e a w → Q' σ e a w) : CodeY E fn c Q' σ a w :=
  fun b k cs hb hk hc => h b k cs hb hk fun σ' e a' w' q => hc σ' e a' w' (hq σ' e a' w' q)
theorem opsY_mono {ops : Array Oper} {todo : List Nat} {Q' : S → Exit → Act → World → Prop} (h : OpsY E fn ops todo Q σ a w) (hq : ∀ σ e a w, Q σ e a w → Q' σ e a w) : OpsY E fn ops todo Q' σ a w :=
  fun b k cs hb hk hc => h b k cs hb hk fun σ' e a' w' q => hc σ' e a' w' (hq σ' e a' w' q)
theorem codeY_skip (h : Q σ .normal a w) : CodeY E fn .skip Q σ a w := fun b k cs _ _ hc => E.ctl rfl (fun _ => stepG_skip) (hc _ _ _ _ h)
theorem codeY_label {l : Nat} (h : Q σ .normal a w) : CodeY E fn (.label l) Q σ a w := fun b k cs _ _ hc => E.ctl rfl (fun _ => stepG_label) (hc _ _ _ _ h)
theorem codeY_ret (h : Q σ .ret a w) : CodeY E fn .ret Q σ a w := fun b k cs _ _ hc => E.ctl rfl (fun _ => stepG_ret') (hc _ _ _ _ h _)
theorem codeY_exit {id : Nat} (h : Q σ (.exit id) a w) : CodeY E fn (.exit id) Q σ a w := fun b k cs _ _ hc => by
  obtain ⟨k', hk', hg⟩ := hc _ _ _ _ h
  exact E.ctl rfl (fun _ => stepG_exit hk') hg
/-- The exits of a piece in a sequence. -/
def thenY (next : S → Act → World → Prop) (Q : S → Exit → Act → World → Prop) : S → Exit → Act → World → Prop
  | σ, .normal, a, w => next σ a w
  | σ, e, a, w => Q σ e a w
theorem codeY_seq {x y : Code} (h : CodeY E fn x (thenY (fun σ' a' w' => CodeY E fn y Q σ' a' w') Q) σ a w) : CodeY E fn (.seq x y) Q σ a w := fun b k cs hb hk hc =>
  E.ctl rfl (fun _ => stepG_seq) (h b (.code y :: k) cs hb hk fun σ' e a' w' q => by
    cases e with
    | normal => exact q b k cs hb hk hc
    | exit id => exact (hc _ _ _ _ q).push rfl (by simp)
    | ret => exact AfterY.push (x := .code y) rfl (by simp) (hc _ _ _ _ q)
    | goto l => exact hc _ _ _ _ q
    | panic ch => exact AfterY.push (x := .code y) rfl (by simp) (hc _ _ _ _ q)
    | outgrown => exact hc _ _ _ _ q)
theorem codeY_seq_k {x y : Code} (h : ∀ K : S → Act → World → Prop, (∀ σ' a' w', CodeY E fn y Q σ' a' w' → K σ' a' w') → CodeY E fn x (thenY K Q) σ a w) : CodeY E fn (.seq x y) Q σ a w :=
  codeY_seq (h _ fun _ _ _ z => z)
theorem codeY_cond {c : Operand} {x y : Code} {t : Bool} (hc : a.eval c = .bool t) (h : CodeY E fn (if t then x else y) Q σ a w) : CodeY E fn (.cond c x y) Q σ a w :=
  fun b k cs hb hk hq => E.ctl rfl (fun _ => stepG_cond hc) (h b k cs hb hk hq)
theorem codeY_cond_split {c : Operand} {x y : Code} {t : Bool} (hc : a.eval c = .bool t) (ht : t = true → CodeY E fn x Q σ a w) (hf : t = false → CodeY E fn y Q σ a w) : CodeY E fn (.cond c x y) Q σ a w := by
  cases t
  · exact codeY_cond hc (hf rfl)
  · exact codeY_cond hc (ht rfl)
def blockY (id : Nat) (Q : S → Exit → Act → World → Prop) : S → Exit → Act → World → Prop
  | σ, .exit id', a, w => if id' = id then Q σ .normal a w else Q σ (.exit id') a w
  | σ, e, a, w => Q σ e a w
theorem codeY_block {id : Nat} {c : Code} (h : CodeY E fn c (blockY id Q) σ a w) : CodeY E fn (.block id c) Q σ a w := fun b k cs hb hk hc =>
  E.ctl rfl (fun _ => stepG_block) (h b (.inBlock id :: k) cs hb hk fun σ' e a' w' q => by
    cases e with
    | normal => exact E.ctl rfl (fun _ => stepG_inBlock) (hc _ _ _ _ q)
    | exit id' =>
      by_cases hid : id' = id
      · simp only [blockY, hid, if_true] at q
        exact ⟨k, by simp [exitTo, hid], hc _ _ _ _ q⟩
      · simp only [blockY, hid, if_false] at q
        obtain ⟨k', hk', hg⟩ := hc _ _ _ _ q
        have : (id == id') = false := by simp; exact fun h => hid h.symm
        exact ⟨k', by simp [exitTo, this, hk'], hg⟩
    | ret => exact hc _ _ _ _ q
    | goto l => exact hc _ _ _ _ q
    | panic ch => exact hc _ _ _ _ q
    | outgrown => exact hc _ _ _ _ q)
/-- A LOOP, by an invariant and a measure. -/
theorem codeY_loop {c : Code} (I : S → Act → World → Prop) (μ : S → Act → World → Nat) (h₀ : I σ a w)
    (round : ∀ σ a w, I σ a w → CodeY E fn c (thenY (fun σ' a' w' => I σ' a' w' ∧ μ σ' a' w' < μ σ a w) Q) σ a w) : CodeY E fn (.loop c) Q σ a w := by
  intro b k cs hb hk hc
  have key : ∀ n σ a w, μ σ a w = n → I σ a w → E.Run σ (G (b.at a (.code c :: .inLoop c :: k)) cs) w := by
    intro n
    induction n using Nat.strongRecOn with
    | _ n ih =>
      intro σ a w hn hI
      exact round σ a w hI b (.inLoop c :: k) cs hb hk fun σ' e a' w' q => by
        cases e with
        | normal => exact E.ctl rfl (fun _ => stepG_inLoop) (ih _ (hn ▸ q.2) σ' a' w' rfl q.1)
        | exit id => exact (hc _ _ _ _ q).push rfl (by simp)
        | ret => exact AfterY.push (x := .inLoop c) rfl (by simp) (hc _ _ _ _ q)
        | goto l => exact hc _ _ _ _ q
        | panic ch => exact AfterY.push (x := .inLoop c) rfl (by simp) (hc _ _ _ _ q)
        | outgrown => exact hc _ _ _ _ q
  exact E.ctl rfl (fun _ => stepG_loop) (key _ σ a w rfl h₀)
theorem codeY_region {id : Nat} {ops : Array Oper} (h : OpsY E fn ops (List.range ops.size) Q σ a w) : CodeY E fn (.region id ops false) Q σ a w :=
  fun b k cs hb hk hc => E.ctl rfl (fun _ => stepG_region) (h b k cs hb hk hc)
theorem opsY_nil {ops : Array Oper} (h : Q σ .normal a w) : OpsY E fn ops [] Q σ a w := fun b k cs _ _ hc => E.ctl rfl (fun _ => stepG_region_end) (hc _ _ _ _ h)

/-! ### operations -/
variable {ops : Array Oper} {i : Nat} {rest : List Nat} {o : Oper}
/-- An operation that yields a value and draws nothing. -/
theorem opsY_value {v : Value} {w' : World} {es : Array Event} (ho : ops[i]? = some o) (hw : Region.wanted o (yielded ops a.tmps) = true) (hns : Ns (execOp a.eval o))
    (hr : (execOp a.eval o).runT P w #[] = (.ok (.value v) w', es)) (hd : w'.drawn = w.drawn) (hok : Ok (E.still σ) w w' es) (hm : NoMark es)
    (h : OpsY E fn ops rest Q σ (a.put o.dst v) w') : OpsY E fn ops (i :: rest) Q σ a w := fun b k cs hb hk hc => by
  refine E.step rfl fun d => ?_
  have hrd := runT_at P _ _ _ _ _ _ hns hr hd d
  rw [Sem.runT_eq] at hrd
  have h1 := congrArg Prod.fst hrd
  have h2 := congrArg Prod.snd hrd
  simp only at h1 h2
  have hsub : ∀ e ∈ listed P b.fn a o (w.at d), e ∈ es := fun e he => by have := mem_listed he; rw [h2] at this; exact this
  refine ⟨_, w'.at d, _, stepG_value ho hw hk h1, (hok.at d d).sub hsub, .inl (hm.sub hsub), ?_⟩
  rw [E.after_nm σ _ (hm.sub hsub)]
  exact E.rel (h b k cs hb hk hc) d
/-- .. that yields nothing. -/
theorem opsY_none {w' : World} {es : Array Event} (ho : ops[i]? = some o) (hw : Region.wanted o (yielded ops a.tmps) = true) (hns : Ns (execOp a.eval o))
    (hr : (execOp a.eval o).runT P w #[] = (.ok .skip w', es)) (hd : w'.drawn = w.drawn) (hok : Ok (E.still σ) w w' es) (hm : NoMark es)
    (h : OpsY E fn ops rest Q σ (a.put o.dst undef) w') : OpsY E fn ops (i :: rest) Q σ a w := fun b k cs hb hk hc => by
  refine E.step rfl fun d => ?_
  have hrd := runT_at P _ _ _ _ _ _ hns hr hd d
  rw [Sem.runT_eq] at hrd
  have h1 := congrArg Prod.fst hrd
  have h2 := congrArg Prod.snd hrd
  simp only at h1 h2
  have hsub : ∀ e ∈ listed P b.fn a o (w.at d), e ∈ es := fun e he => by have := mem_listed he; rw [h2] at this; exact this
  refine ⟨_, w'.at d, _, stepG_none ho hw hk h1, (hok.at d d).sub hsub, .inl (hm.sub hsub), ?_⟩
  rw [E.after_nm σ _ (hm.sub hsub)]
  exact E.rel (h b k cs hb hk hc) d
/-- An operation that yields the same in every world, and lists nothing. -/
theorem opsY_pure {v : Value} (ho : ops[i]? = some o) (hw : Region.wanted o (yielded ops a.tmps) = true) (hr : ∀ u, (execOp a.eval o).run P u = .ok (.value v) u) (he : ∀ u, (execOp a.eval o).events P u #[] = #[])
    (h : OpsY E fn ops rest Q σ (a.put o.dst v) w) : OpsY E fn ops (i :: rest) Q σ a w := fun b k cs hb hk hc => by
  refine E.ctl rfl (fun u => ?_) (h b k cs hb hk hc)
  rw [stepG_value ho hw hk (hr u)]
  have : listed P b.fn a o u = #[] := by unfold listed; rw [he, seen_none]
  rw [this]
/-- An operation whose guard says no is passed over. -/
theorem opsY_unwanted (ho : ops[i]? = some o) (hw : Region.wanted o (yielded ops a.tmps) = false) (h : OpsY E fn ops rest Q σ (a.put o.dst undef) w) : OpsY E fn ops (i :: rest) Q σ a w :=
  fun b k cs hb hk hc => E.ctl rfl (fun _ => stepG_unwanted ho hw) (h b k cs hb hk hc)
/-- WHAT WRITES NOTHING AND DRAWS NOTHING, what follows standing behind a variable. -/
theorem opsY_nw (ho : ops[i]? = some o) (hw : Region.wanted o (yielded ops a.tmps) = true) (hnw : Nw (execOp a.eval o))
    (h : ∀ K : Act → World → Prop, (∀ a' w', (w'.drawn = w.drawn ∧ (Ext w w' → OpsY E fn ops rest Q σ a' w')) → K a' w') → uponK o a K ((execOp a.eval o).run P w)) : OpsY E fn ops (i :: rest) Q σ a w := by
  obtain ⟨K, hK⟩ : ∃ K : Act → World → Prop, K = fun a' w' => w'.drawn = w.drawn ∧ (Ext w w' → OpsY E fn ops rest Q σ a' w') := ⟨_, rfl⟩
  have h' := h K (fun _ _ x => by rw [hK]; exact x)
  have hrT := Sem.runT_eq P (execOp a.eval o) w #[]
  revert h' hrT
  generalize (execOp a.eval o).run P w = r
  intro h' hrT
  have key : ∀ (x : Next) (w' : World), r = .ok x w' → (Ext w w' ∧ (∀ e ∈ (execOp a.eval o).events P w #[], Rd e) ∧ ∀ e ∈ (execOp a.eval o).events P w #[], (MemAct.ofEvent e).low w'.heap.size) := fun x w' e => by
    subst e
    obtain ⟨hx, he⟩ := nw_run P _ _ _ _ _ _ hnw hrT
    exact ⟨hx, fun e hm => (he e hm).elim (fun z => by simp at z) id, fun e hm => (nw_low P _ _ _ _ _ _ hnw hrT e hm).elim (fun z => by simp at z) id⟩
  cases r with
  | halt hh w' => exact h'.elim
  | ok x w' =>
    obtain ⟨hx, he, hlw⟩ := key x w' rfl
    cases x with
    | value v =>
      rw [uponK_value, hK] at h'
      exact opsY_value ho hw (ns_of_nw _ hnw) hrT h'.1 (.of_ext hx he hlw) (noMark_of_rd he) (h'.2 hx)
    | skip =>
      rw [uponK_skip, hK] at h'
      exact opsY_none ho hw (ns_of_nw _ hnw) hrT h'.1 (.of_ext hx he hlw) (noMark_of_rd he) (h'.2 hx)
    | _ => exact h'.elim

/-! ### calls -/
/-- Back at the caller. -/
def RetY (E : Eng P S) (c : Frame) (cs : List Frame) (σ : S) (v : Value) (w : World) : Prop := E.Run σ (G (c.finish v) cs) w
def RaiseY (E : Eng P S) (c : Frame) (cs : List Frame) (σ : S) (ch : List PanicEntry) (w : World) : Prop := E.Run σ (G (c.raise ch) cs) w
/-- Function f has a Go body. -/
def HasBody (P : Program) (f : FuncId) : Prop := ∃ fnc, P.funcs[f]? = some fnc ∧ (fnc.name == "runtime.NumGoroutine") = false ∧ fnc.body.isNone = false
/-- A CONTRACT. -/
structure CallY (E : Eng P S) (f : FuncId) (args : Array Value) (Post : S → Ending → World → Prop) (σ : S) (w : World) : Prop where
  has : HasBody P f
  run : ∀ (c : Frame) (cs : List Frame), (∀ σ' v w', Post σ' (.returned v) w' → RetY E c cs σ' v w') → (∀ σ' ch w', Post σ' (.panicked ch) w' → RaiseY E c cs σ' ch w') →
    E.Run σ (G (Frame.enter P f args .normal) (c :: cs)) w
theorem CallY.mono {f : FuncId} {args : Array Value} {Post Post' : S → Ending → World → Prop} (h : CallY E f args Post σ w) (hp : ∀ σ e w, Post σ e w → Post' σ e w) : CallY E f args Post' σ w :=
  ⟨h.has, fun c cs h1 h2 => h.run c cs (fun σ' v w' p => h1 σ' v w' (hp _ _ _ p)) (fun σ' v w' p => h2 σ' v w' (hp _ _ _ p))⟩
/-- What the body of a callee must achieve (no deferred call is left). -/
def bodyY (P : Program) (fn : Func) (Post : S → Ending → World → Prop) : S → Exit → Act → World → Prop
  | σ, .normal, a, w | σ, .ret, a, w => a.defers = [] ∧ ∃ v, (results fn a.tmps).run P w = .ok v w ∧ Post σ (.returned v) w
  | σ, .panic ch, a, w => a.defers = [] ∧ Post σ (.panicked ch) w
  | _, _, _, _ => False
theorem nw_load (a : Addr) (m : Mode) : Nw (load a m) := fun _ => trivial
theorem nw_typeInfo (t : TypeId) : Nw (typeInfo t) := nw_bind (fun _ => trivial) fun p => by split <;> trivial
theorem nw_underlying (t : TypeId) : Nw (underlying t) := nw_bind (fun _ => trivial) fun p => by split <;> trivial
theorem nw_sizeOf (t : TypeId) : Nw (sizeOf t) := nw_bind (nw_typeInfo t) fun _ => trivial
theorem nw_isAgg (t : TypeId) : Nw (isAgg t) := nw_bind (nw_underlying t) fun d => by split <;> trivial
theorem nw_loadCellsFrom (a : Addr) : ∀ (n i : Nat) (acc : Array Value), Nw (loadCellsFrom a i n acc)
  | 0, _, _ => trivial
  | n + 1, i, acc => nw_bind (nw_load _ _) fun v => nw_loadCellsFrom a n (i + 1) (acc.push v)
theorem nw_loadCells (a : Addr) (n : Nat) : Nw (loadCells a n) := nw_loadCellsFrom a n 0 #[]
theorem nw_loadVar (t : TypeId) (a : Addr) : Nw (loadVar t a) := nw_bind (nw_isAgg t) fun b => by
  cases b
  · exact nw_load _ _
  · exact nw_bind (nw_sizeOf t) fun n => nw_bind (nw_loadCells a n) fun _ => trivial
theorem nw_runtimePanic {α : Type} (e : RuntimeError) : Nw (runtimePanic e : Sem α) := nw_bind (fun _ => trivial) fun p => by
  cases e <;> first
    | trivial
    | exact nw_bind (nw_bind (nw_underlying _) fun d => by split <;> trivial) fun _ => nw_bind (nw_bind (fun _ => trivial) fun _ => trivial) fun _ => trivial
theorem nw_asAddr (v : Value) : Nw (asAddr v) := by
  unfold asAddr
  split
  · trivial
  · exact nw_runtimePanic _
  · trivial
theorem nw_listMapM {α β : Type} (f : α → Sem β) (hf : ∀ x, Nw (f x)) : ∀ l : List α, Nw (l.mapM f)
  | [] => by simpa using nw_pure _
  | x :: l => by
    rw [List.mapM_cons]
    exact nw_bind (hf x) fun _ => nw_bind (nw_listMapM f hf l) fun _ => trivial
theorem nw_results (fn : Func) (tmps : Array Value) : Nw (results fn tmps) := by
  unfold results
  refine nw_bind ?_ fun _ => trivial
  rw [Array.mapM_eq_mapM_toList]
  refine nw_map (nw_listMapM _ (fun r => ?_) _)
  cases r with
  | tmp t => trivial
  | cell a t => exact nw_bind (nw_asAddr _) fun _ => nw_loadVar _ _
/-- The step that hands the results back. -/
theorem leaveY {f : FuncId} {fnc : Func} {b c : Frame} {cs : List Frame} {todo : List Item} {v : Value} (hn : b.kind = .normal) (hb : b.fn = f) (hd : a.defers = []) (hf : P.funcs[f]? = some fnc)
    (hr : (results fnc a.tmps).run P w = .ok v w) (h : RetY E c cs σ v w) : E.Run σ (G { b.at a todo with mode := .returning } (c :: cs)) w := by
  refine E.step rfl fun d => ?_
  have hnw := nw_results fnc a.tmps
  have hrT : (results fnc a.tmps).runT P w #[] = (.ok v w, (results fnc a.tmps).events P w #[]) := by rw [Sem.runT_eq, hr]
  obtain ⟨_, he⟩ := nw_run P _ _ _ _ _ _ hnw hrT
  have he' : ∀ e ∈ (results fnc a.tmps).events P w #[], Rd e := fun e hm => (he e hm).elim (fun z => by simp at z) id
  have hlw : ∀ e ∈ (results fnc a.tmps).events P w #[], (MemAct.ofEvent e).low w.heap.size := fun e hm => (nw_low P _ _ _ _ _ _ hnw hrT e hm).elim (fun z => by simp at z) id
  have hrd := runT_at P _ _ _ _ _ _ (ns_of_nw _ hnw) hrT rfl d
  have hsub : ∀ e ∈ seen P f ((results fnc a.tmps).events P w #[]), e ∈ (results fnc a.tmps).events P w #[] := fun e he => mem_seen he
  refine ⟨G (c.finish v) cs, w.at d, seen P f ((results fnc a.tmps).events P w #[]), ?_, ((Ok.of_ext (.refl w) he' hlw).at d d).sub hsub, .inl ((noMark_of_rd he').sub hsub), ?_⟩
  · subst hb
    rw [Sem.runT_eq] at hrd
    have h1 := congrArg Prod.fst hrd
    have h2 := congrArg Prod.snd hrd
    simp only at h1 h2
    simp [G, stepG, unwind, doReturn, Frame.at, hn, hd, hf, h1, h2, GStep.after]
  · rw [E.after_nm σ _ ((noMark_of_rd he').sub hsub)]
    exact E.rel h d
/-- A panic goes through a frame without deferred calls. -/
theorem raiseY {f : FuncId} {fnc : Func} {b c : Frame} {cs : List Frame} {todo : List Item} {ch : List PanicEntry} (hb : b.fn = f) (hd : a.defers = []) (hf : P.funcs[f]? = some fnc)
    (h : RaiseY E c cs σ ch w) : E.Run σ (G { b.at a todo with mode := .panicking ch } (c :: cs)) w := by
  refine E.ctl rfl (fun w => ?_) h
  subst hb
  simp [G, stepG, unwind, Frame.catches, Frame.at, hd, hf]
/-- How a body may be left: by the results read, or by more than that ('LeavesY': deferred calls). -/
def LeavesY (E : Eng P S) (f : FuncId) (Post : S → Ending → World → Prop) (σ : S) (a : Act) (w : World) : Prop :=
  ∀ (c : Frame) (cs : List Frame) (todo : List Item), (∀ σ' v w', Post σ' (.returned v) w' → RetY E c cs σ' v w') → E.Run σ (G { (base f).at a todo with mode := .returning } (c :: cs)) w
def bodyLY (E : Eng P S) (f : FuncId) (Post : S → Ending → World → Prop) : S → Exit → Act → World → Prop
  | σ, .normal, a, w | σ, .ret, a, w => LeavesY E f Post σ a w
  | σ, .panic ch, a, w => a.defers = [] ∧ Post σ (.panicked ch) w
  | _, _, _, _ => False
theorem callY_ofL {f : FuncId} {fnc : Func} {c : Code} {args : Array Value} {Post : S → Ending → World → Prop} (hf : P.funcs[f]? = some fnc) (hname : (fnc.name == "runtime.NumGoroutine") = false) (hb : fnc.body = some c)
    (h : CodeY E f c (bodyLY E f Post) σ { tmps := args ++ Array.replicate (fnc.ntmps - args.size) undef, defers := [] } w) : CallY E f args Post σ w := ⟨⟨fnc, hf, hname, by rw [hb]; rfl⟩, fun cf cs h1 h2 => by
  rw [enter_at args hf hb]
  refine h (base f) [] (cf :: cs) rfl (by simp [base]) fun σ' e a' w' q => ?_
  cases e with
  | normal => exact E.ctl rfl (fun _ => stepG_end) (q cf cs [] h1)
  | ret => exact fun todo => q cf cs todo h1
  | panic ch => exact fun todo => raiseY (b := base f) rfl q.1 hf (h2 _ _ _ q.2)
  | exit id => exact q.elim
  | goto l => exact q.elim
  | outgrown => exact q.elim⟩
theorem leavesY_plain {f : FuncId} {fnc : Func} {Post : S → Ending → World → Prop} {v : Value} (hf : P.funcs[f]? = some fnc) (hd : a.defers = []) (hr : (results fnc a.tmps).run P w = .ok v w) (hp : Post σ (.returned v) w) : LeavesY E f Post σ a w :=
  fun _ _ _ h1 => leaveY (b := base f) rfl rfl hd hf hr (h1 _ _ _ hp)
theorem callY_of {f : FuncId} {fnc : Func} {c : Code} {args : Array Value} {Post : S → Ending → World → Prop} (hf : P.funcs[f]? = some fnc) (hname : (fnc.name == "runtime.NumGoroutine") = false) (hb : fnc.body = some c)
    (h : CodeY E f c (bodyY P fnc Post) σ { tmps := args ++ Array.replicate (fnc.ntmps - args.size) undef, defers := [] } w) : CallY E f args Post σ w :=
  callY_ofL hf hname hb (codeY_mono h fun σ e a w q => by
    cases e with
    | normal => obtain ⟨hd, v, hr, hp⟩ := q; exact leavesY_plain hf hd hr hp
    | ret => obtain ⟨hd, v, hr, hp⟩ := q; exact leavesY_plain hf hd hr hp
    | panic ch => exact q
    | exit id => exact q.elim
    | goto l => exact q.elim
    | outgrown => exact q.elim)
theorem run_callv {o : Oper} {x : Operand} {f : FuncId} {first captured : Array Value} {fnc : Func} {args : Array Operand} {ats : Array TypeId} (hop : o.op = .call { callee := .value x, args, argTypes := ats })
    (hx : a.eval x = .func (.func f) first captured) (hf : P.funcs[f]? = some fnc) (hname : (fnc.name == "runtime.NumGoroutine") = false) (hb : fnc.body.isNone = false) (w : World) :
    (execOp a.eval o).run P w = .ok (.enter f (first ++ args.map a.eval ++ captured)) w ∧ (execOp a.eval o).events P w #[] = #[] := by
  have h1 : ¬ fnc.name = "runtime.NumGoroutine" := by simpa using hname
  have h2 : ¬ fnc.body = none := by cases hx : fnc.body <;> simp_all
  unfold execOp
  simp [hop, resolve, Deferred.ofValue, invoke, callFunc, hf, h1, h2, hx]
/-- THROUGH A CALL, BY THE CALLEE's CONTRACT: of whatever function value. -/
theorem opsY_callv {f : FuncId} {x : Operand} {first captured : Array Value} {args : Array Operand} {ats : Array TypeId} {Post : S → Ending → World → Prop} (ho : ops[i]? = some o) (hw : Region.wanted o (yielded ops a.tmps) = true)
    (hop : o.op = .call { callee := .value x, args, argTypes := ats }) (hx : a.eval x = .func (.func f) first captured)
    (hcall : CallY E f (first ++ args.map a.eval ++ captured) Post σ w) (hnext : ∀ σ' v w', Post σ' (.returned v) w' → OpsY E fn ops rest Q σ' (a.put o.dst v) w')
    (hpan : ∀ σ' ch w', Post σ' (.panicked ch) w' → Q σ' (.panic ch) a w') : OpsY E fn ops (i :: rest) Q σ a w := fun b k cs hb hk hc => by
  obtain ⟨fnc, hf, hname, hbody⟩ := hcall.has
  have hfin : ∀ v, (b.at a (.inRegion ops (i :: rest) :: k)).finish v = b.at (a.put o.dst v) (.inRegion ops rest :: k) := fun v => by rw [Frame.finish_at, ho]; rfl
  have he : ∀ w, listed P b.fn a o w = #[] := fun w => by unfold listed; rw [(run_callv hop hx hf hname hbody w).2]; exact seen_none P _
  refine E.ctl rfl (fun w => by rw [stepG_enter ho hw hk (run_callv hop hx hf hname hbody w).1, he w]) (hcall.run _ _ (fun σ' v w' p => ?_) (fun σ' ch w' p => ?_))
  · unfold RetY
    rw [hfin]
    exact hnext σ' v w' p b k cs hb hk hc
  · have := hc _ _ _ _ (hpan σ' ch w' p) (.inRegion ops (i :: rest) :: k)
    exact this
/-- .. of a function named outright. -/
theorem opsY_call {f : FuncId} {args : Array Operand} {ats : Array TypeId} {Post : S → Ending → World → Prop} (ho : ops[i]? = some o) (hw : Region.wanted o (yielded ops a.tmps) = true)
    (hop : o.op = .call { callee := .value (.func f), args, argTypes := ats })
    (hcall : CallY E f (args.map a.eval) Post σ w) (hnext : ∀ σ' v w', Post σ' (.returned v) w' → OpsY E fn ops rest Q σ' (a.put o.dst v) w')
    (hpan : ∀ σ' ch w', Post σ' (.panicked ch) w' → Q σ' (.panic ch) a w') : OpsY E fn ops (i :: rest) Q σ a w :=
  opsY_callv ho hw hop (first := #[]) (captured := #[]) rfl (by simpa using hcall) hnext hpan

/-! ### deferred calls -/
theorem opsY_defer {f : FuncId} {as : Array Operand} {ats : Array TypeId} (ho : ops[i]? = some o) (hw : Region.wanted o (yielded ops a.tmps) = true) (hop : o.op = .defer { callee := .value (.func f), args := as, argTypes := ats })
    (h : OpsY E fn ops rest Q σ (Act.put ⟨a.tmps, dcall f (as.map a.eval) :: a.defers⟩ o.dst undef) w) : OpsY E fn ops (i :: rest) Q σ a w := fun b k cs hb hk hc =>
  E.ctl rfl (fun _ => stepG_defer ho hw hk hop) (h b k cs hb hk hc)
/-- A CONTRACT OF A DEFERRED CALL, made on the way out by a plain return. -/
structure CallDY (E : Eng P S) (f : FuncId) (args : Array Value) (Post : S → World → Prop) (σ : S) (w : World) : Prop where
  has : ∃ fnc c, P.funcs[f]? = some fnc ∧ (fnc.name == "runtime.NumGoroutine") = false ∧ fnc.body = some c
  run : ∀ (c : Frame) (cs : List Frame), c.mode = .returning → (∀ σ' w', Post σ' w' → E.Run σ' (G c cs) w') → E.Run σ (G (Frame.enter P f args .deferred) (c :: cs)) w
theorem leaveDY {f : FuncId} {fnc : Func} {b c : Frame} {cs : List Frame} {todo : List Item} {v : Value} (hn : b.kind = .deferred) (hb : b.fn = f) (hd : a.defers = []) (hf : P.funcs[f]? = some fnc)
    (hr : fnc.results = #[]) (hc : c.mode = .returning) (h : E.Run σ (G c cs) w) : E.Run σ (G { b.at a todo with mode := .returning } (c :: cs)) w := by
  subst hb
  exact E.ctl rfl (fun w => stepG_leave_deferred hn hd hf (results_none hr _ P w) (events_results_none hr _ _) hc) h
/-- What the body of a deferred callee must achieve. -/
def bodyDY (Post : S → World → Prop) : S → Exit → Act → World → Prop
  | σ, .normal, a, w | σ, .ret, a, w => a.defers = [] ∧ Post σ w
  | _, _, _, _ => False
theorem callDY_of {f : FuncId} {fnc : Func} {c : Code} {args : Array Value} {Post : S → World → Prop} (hf : P.funcs[f]? = some fnc) (hname : (fnc.name == "runtime.NumGoroutine") = false) (hb : fnc.body = some c) (hr : fnc.results = #[])
    (h : CodeY E f c (bodyDY Post) σ { tmps := args ++ Array.replicate (fnc.ntmps - args.size) undef, defers := [] } w) : CallDY E f args Post σ w := ⟨⟨fnc, c, hf, hname, hb⟩, fun cf cs hm h1 => by
  rw [enter_atD args hf hb]
  refine h (baseD f) [] (cf :: cs) rfl (by simp [baseD]) fun σ' e a' w' q => ?_
  cases e with
  | normal => exact E.ctl rfl (fun _ => stepG_end) (leaveDY (b := baseD f) (v := undef) rfl rfl q.1 hf hr hm (h1 _ _ q.2))
  | ret => exact fun todo => leaveDY (b := baseD f) (v := undef) rfl rfl q.1 hf hr hm (h1 _ _ q.2)
  | panic ch => exact q.elim
  | exit id => exact q.elim
  | goto l => exact q.elim
  | outgrown => exact q.elim⟩
/-- Out of a body with a deferred call still to be made. -/
theorem leavesY_defer {f g : FuncId} {args : Array Value} {ds : List Deferred} {Post : S → Ending → World → Prop} {PostD : S → World → Prop} (hd : a.defers = dcall g args :: ds) (hg : CallDY E g args PostD σ w)
    (h : ∀ σ' w', PostD σ' w' → LeavesY E f Post σ' ⟨a.tmps, ds⟩ w') : LeavesY E f Post σ a w := fun c cs todo h1 => by
  obtain ⟨fnc, cd, hf, hname, hb⟩ := hg.has
  refine E.ctl rfl (fun w => ?_) (hg.run ({ (base f).at ⟨a.tmps, ds⟩ todo with mode := .returning }) (c :: cs) rfl fun σ' w' hp => h σ' w' hp c cs todo h1)
  rw [stepG_unwind_enter hd hf hname hb, ← enter_atD args hf hb]

/-! ### the forms in which a walk goes on -/
theorem thenY_n {next : S → Act → World → Prop} (h : next σ a w) : thenY next Q σ .normal a w := h
theorem thenY_e {next : S → Act → World → Prop} {id : Nat} (h : Q σ (.exit id) a w) : thenY next Q σ (.exit id) a w := h
theorem thenY_r {next : S → Act → World → Prop} (h : Q σ .ret a w) : thenY next Q σ .ret a w := h
theorem thenY_p {next : S → Act → World → Prop} {ch : List PanicEntry} (h : Q σ (.panic ch) a w) : thenY next Q σ (.panic ch) a w := h
theorem blockY_n {id : Nat} (h : Q σ .normal a w) : blockY id Q σ .normal a w := h
theorem blockY_e {id : Nat} (h : Q σ .normal a w) : blockY id Q σ (.exit id) a w := by simp only [blockY, if_true]; exact h
theorem blockY_o {id id' : Nat} (hne : (id' == id) = false) (h : Q σ (.exit id') a w) : blockY id Q σ (.exit id') a w := by
  have : ¬ id' = id := by simpa using hne
  simp only [blockY, this, if_false]; exact h
theorem blockY_r {id : Nat} (h : Q σ .ret a w) : blockY id Q σ .ret a w := h
theorem blockY_p {id : Nat} {ch : List PanicEntry} (h : Q σ (.panic ch) a w) : blockY id Q σ (.panic ch) a w := h
theorem codeY_region_k {id : Nat} {ops : Array Oper} (h : ∀ K : S → Exit → Act → World → Prop, (∀ σ e a w, Q σ e a w → K σ e a w) → OpsY E fn ops (List.range ops.size) K σ a w) : CodeY E fn (.region id ops false) Q σ a w :=
  codeY_region (h Q fun _ _ _ _ z => z)
theorem codeY_condT {c : Operand} {x y : Code} (hc : a.eval c = .bool true) (h : CodeY E fn x Q σ a w) : CodeY E fn (.cond c x y) Q σ a w := codeY_cond hc h
theorem codeY_condF {c : Operand} {x y : Code} (hc : a.eval c = .bool false) (h : CodeY E fn y Q σ a w) : CodeY E fn (.cond c x y) Q σ a w := codeY_cond hc h
variable {x : Operand} {ty : TypeId} {pos : String} {af : Array Edge} {gu : Option (Nat × Bool)} {dst : Option Tmp}
/-- A copy. -/
theorem opsY_move (ho : ops[i]? = some ⟨dst, .move x, ty, pos, af, gu⟩) (hw : Region.wanted ⟨dst, .move x, ty, pos, af, gu⟩ (yielded ops a.tmps) = true) (h : OpsY E fn ops rest Q σ (a.put dst (a.eval x)) w) : OpsY E fn ops (i :: rest) Q σ a w :=
  opsY_value ho hw trivial (w' := w) (es := #[]) (by simp [execOp, pure, Sem.run, Sem.events, Sem.runT, -Sem.runT_eq]) rfl (.refl _ _) noMark_nil h
theorem opsY_assign (ho : ops[i]? = some ⟨dst, .assign x, ty, pos, af, gu⟩) (hw : Region.wanted ⟨dst, .assign x, ty, pos, af, gu⟩ (yielded ops a.tmps) = true) (h : OpsY E fn ops rest Q σ (a.put dst (a.eval x)) w) : OpsY E fn ops (i :: rest) Q σ a w :=
  opsY_value ho hw trivial (w' := w) (es := #[]) (by simp [execOp, pure, Sem.run, Sem.events, Sem.runT, -Sem.runT_eq]) rfl (.refl _ _) noMark_nil h
theorem bodyY_ret {fnc : Func} {Post : S → Ending → World → Prop} {v : Value} (hd : a.defers = []) (hr : (results fnc a.tmps).run P w = .ok v w) (hp : Post σ (.returned v) w) : bodyY P fnc Post σ .ret a w := ⟨hd, v, hr, hp⟩
theorem bodyY_end {fnc : Func} {Post : S → Ending → World → Prop} {v : Value} (hd : a.defers = []) (hr : (results fnc a.tmps).run P w = .ok v w) (hp : Post σ (.returned v) w) : bodyY P fnc Post σ .normal a w := ⟨hd, v, hr, hp⟩
end
end Go.Proofs.Ythnfheohfnhcpaa.Y
