/- What single operations may do: operations that write nothing; and that a step which draws nothing does not look at the count of draws. -/
import Derived.Conc.TokenWords
import Derived.Conc.Beside
import Derived.Conc.WalkWords
set_option linter.unusedSimpArgs false
set_option linter.unusedVariables false
namespace Go.Proofs.Ythnfheohfnhcpaa.Y
open Go Go.Conc

/-- Writes nothing (it may make new blocks, look, draw). -/
def Nw {α : Type} : Sem α → Prop
  | .pure _ => True
  | .load _ _ k => ∀ v, Nw (k v)
  | .store _ _ _ _ => False
  | .new _ k => ∀ r, Nw (k r)
  | .shape _ k => ∀ s, Nw (k s)
  | .freeze _ _ _ => False
  | .frozen _ k => ∀ b, Nw (k b)
  | .getObj _ k => ∀ o, Nw (k o)
  | .setObj _ _ _ => False
  | .choose _ k => ∀ n, Nw (k n)
  | .sys _ _ => False
  | .program k => ∀ p, Nw (k p)
  | .mark m k => m = .noRoom ∧ Nw k
  | .halt _ => True

theorem nw_bind' {α β : Type} (x : Sem α) (f : α → Sem β) (hx : Nw x) (hf : ∀ a, Nw (f a)) : Nw (x.bind f) := by
  induction x with
  | pure a => exact hf a
  | load m a k ih => exact fun v => ih v (hx v)
  | store m a v k ih => exact hx.elim
  | new o k ih => exact fun v => ih v (hx v)
  | shape o k ih => exact fun v => ih v (hx v)
  | freeze a n k ih => exact hx.elim
  | frozen o k ih => exact fun v => ih v (hx v)
  | getObj o k ih => exact fun v => ih v (hx v)
  | setObj r o k ih => exact hx.elim
  | choose o k ih => exact fun v => ih v (hx v)
  | sys c k ih => exact hx.elim
  | program k ih => exact fun v => ih v (hx v)
  | mark m k ih => exact ⟨hx.1, ih hx.2⟩
  | halt h => trivial
theorem nw_bind {α β : Type} {x : Sem α} {f : α → Sem β} (hx : Nw x) (hf : ∀ a, Nw (f a)) : Nw (x >>= f) := nw_bind' x f hx hf
theorem nw_map {α β : Type} {x : Sem α} {f : α → β} (hx : Nw x) : Nw (f <$> x) := nw_bind' x _ hx fun _ => trivial
theorem nw_pure {α : Type} (a : α) : Nw (pure a : Sem α) := trivial

/-- The world has at most grown. -/
structure Ext (w w' : World) : Prop where
  tape : w'.tape = w.tape
  os : w'.os = w.os
  output : w'.output = w.output
  size : w.heap.size ≤ w'.heap.size
  block : ∀ b, b < w.heap.size → w'.heap[b]? = w.heap[b]?
theorem Ext.refl (w : World) : Ext w w := ⟨rfl, rfl, rfl, Nat.le_refl _, fun _ _ => rfl⟩
theorem Ext.trans {a b c : World} (h : Ext a b) (k : Ext b c) : Ext a c :=
  ⟨k.tape.trans h.tape, k.os.trans h.os, k.output.trans h.output, Nat.le_trans h.size k.size, fun i hi => (k.block i (Nat.lt_of_lt_of_le hi h.size)).trans (h.block i hi)⟩
theorem Ext.push (w : World) (o : Obj) : Ext w { w with heap := w.heap.push o } :=
  ⟨rfl, rfl, rfl, by simp, fun b hb => by simp [Array.getElem?_push, Nat.ne_of_lt hb]⟩

/-- An event that is no write, and no word of deafness. -/
def Rd (e : Event) : Prop := e.write = false ∧ e.loc ≠ .mark .disable ∧ e.loc ≠ .mark .enable ∧ ∀ m, e.loc = .mark m → m = .noRoom

theorem nw_run {α : Type} (P : Program) (s : Sem α) : ∀ (w w' : World) (es es' : Array Event) (x : α), Nw s → s.runT P w es = (.ok x w', es') →
    Ext w w' ∧ ∀ e ∈ es', e ∈ es ∨ Rd e := by
  induction s with
  | pure a =>
    intro w w' es es' x _ h
    simp only [Sem.runT, Prod.mk.injEq, Result.ok.injEq] at h
    obtain ⟨⟨_, rfl⟩, rfl⟩ := h
    exact ⟨Ext.refl _, fun e he => .inl he⟩
  | load m a k ih =>
    intro w w' es es' x hn h
    simp only [Sem.runT] at h
    split at h
    · obtain ⟨h1, h2⟩ := ih _ _ _ _ _ _ (hn _) h
      refine ⟨h1, fun e he => (h2 e he).elim (fun z => ?_) .inr⟩
      rcases Array.mem_push.1 z with z | rfl
      · exact .inl z
      · exact .inr ⟨rfl, by simp, by simp, by simp⟩
    · split at h
      · obtain ⟨h1, h2⟩ := ih _ _ _ _ _ _ (hn _) h
        refine ⟨h1, fun e he => (h2 e he).elim (fun z => ?_) .inr⟩
        rcases Array.mem_append.1 z with z | z
        · exact .inl z
        · obtain ⟨y, _, rfl⟩ := Array.mem_map.1 z
          exact .inr ⟨rfl, by simp, by simp, by simp⟩
      · simp at h
  | store m a v k ih => intro w w' es es' x hn; exact hn.elim
  | new o k ih =>
    intro w w' es es' x hn h
    simp only [Sem.runT] at h
    obtain ⟨h1, h2⟩ := ih _ _ _ _ _ _ (hn _) h
    exact ⟨(Ext.push w o).trans h1, h2⟩
  | shape o k ih =>
    intro w w' es es' x hn h
    simp only [Sem.runT] at h
    exact ih _ _ _ _ _ _ (hn _) h
  | freeze a n k ih => intro w w' es es' x hn; exact hn.elim
  | frozen o k ih =>
    intro w w' es es' x hn h
    simp only [Sem.runT] at h
    exact ih _ _ _ _ _ _ (hn _) h
  | getObj r k ih =>
    intro w w' es es' x hn h
    simp only [Sem.runT] at h
    split at h
    · simp at h
    · obtain ⟨h1, h2⟩ := ih _ _ _ _ _ _ (hn _) h
      refine ⟨h1, fun e he => (h2 e he).elim (fun z => ?_) .inr⟩
      rcases Array.mem_push.1 z with z | rfl
      · exact .inl z
      · exact .inr ⟨rfl, by simp, by simp, by simp⟩
    · simp at h
  | setObj r o k ih => intro w w' es es' x hn; exact hn.elim
  | choose q k ih =>
    intro w w' es es' x hn h
    simp only [Sem.runT] at h
    split at h
    · exact ih _ _ _ _ _ _ (hn _) h
    · obtain ⟨h1, h2⟩ := ih _ _ _ _ _ _ (hn _) h
      exact ⟨⟨h1.tape, h1.os, h1.output, h1.size, h1.block⟩, h2⟩
  | sys c k ih => intro w w' es es' x hn; exact hn.elim
  | program k ih =>
    intro w w' es es' x hn h
    simp only [Sem.runT] at h
    exact ih _ _ _ _ _ _ (hn _) h
  | mark m k ih =>
    intro w w' es es' x hn h
    simp only [Sem.runT] at h
    obtain ⟨h1, h2⟩ := ih _ _ _ _ _ hn.2 h
    refine ⟨h1, fun e he => (h2 e he).elim (fun z => ?_) .inr⟩
    rcases Array.mem_push.1 z with z | rfl
    · exact .inl z
    · exact .inr ⟨rfl, by simp [hn.1], by simp [hn.1], by simp [hn.1]⟩
  | halt h => intro w w' es es' x _ h; simp [Sem.runT] at h

theorem viewLoad_low {P : Program} {w : World} {x : Addr} {u : TypeId} {a : Addr} {b : Bool} {v : Value} {t : List Addr} (h : w.viewLoad P x u a b = .ok (v, t)) : ∀ y ∈ t, y.block < w.heap.size := by
  unfold World.viewLoad at h
  cases hs : w.seen P x u a b with
  | error e => rw [hs] at h; simp [bind, Except.bind] at h
  | ok r =>
    have hlt : x.block < w.heap.size := by
      unfold World.seen at hs
      cases hh : w.heap[x.block]? with
      | none =>
        rw [hh] at hs
        simp only [bind, Except.bind, pure, Except.pure, throw, throwThe, MonadExceptOf.throw] at hs
        repeat' (first | (cases hs; done) | split at hs)
      | some o => exact (Array.getElem?_eq_some_iff.1 hh).1
    rw [hs] at h
    simp only [bind, Except.bind, pure, Except.pure, throw, throwThe, MonadExceptOf.throw] at h
    split at h
    · simp only [Except.ok.injEq, Prod.mk.injEq] at h
      obtain ⟨_, rfl⟩ := h
      intro y hy
      obtain ⟨z, _, rfl⟩ := List.mem_map.1 hy
      exact hlt
    · cases h
theorem farLoad_low {P : Program} {w : World} {a : Addr} {b : Bool} {v : Value} {t : List Addr} (h : w.farLoad P a b = .ok (v, t)) : ∀ y ∈ t, y.block < w.heap.size := by
  unfold World.farLoad at h
  split at h
  · split at h
    · rename_i r hr
      obtain ⟨v', t'⟩ := r
      simp only [Except.ok.injEq, Prod.mk.injEq] at h
      obtain ⟨rfl, rfl⟩ := h
      exact viewLoad_low hr
    · cases h
  · cases h
/-- WHAT WRITES NOTHING LISTS PLACES OF THE HEAP ALONE. -/
theorem nw_low {α : Type} (P : Program) (s : Sem α) : ∀ (w w' : World) (es es' : Array Event) (x : α), Nw s → s.runT P w es = (.ok x w', es') →
    ∀ e ∈ es', e ∈ es ∨ (MemAct.ofEvent e).low w'.heap.size := by
  induction s with
  | pure a =>
    intro w w' es es' x _ h
    simp only [Sem.runT, Prod.mk.injEq, Result.ok.injEq] at h
    obtain ⟨_, rfl⟩ := h
    exact fun e he => .inl he
  | load m a k ih =>
    intro w w' es es' x hn h
    have hx := (nw_run P _ _ _ _ _ _ hn h).1.size
    simp only [Sem.runT] at h
    split at h
    · rename_i v hv
      refine fun e he => (ih _ _ _ _ _ _ (hn _) h e he).elim (fun z => ?_) .inr
      rcases Array.mem_push.1 z with z | rfl
      · exact .inl z
      · exact .inr (Nat.lt_of_lt_of_le (World.block_lt_of_cell? _ _ hv) hx)
    · split at h
      · rename_i hf
        refine fun e he => (ih _ _ _ _ _ _ (hn _) h e he).elim (fun z => ?_) .inr
        rcases Array.mem_append.1 z with z | z
        · exact .inl z
        · obtain ⟨y, hy, rfl⟩ := Array.mem_map.1 z
          exact .inr (Nat.lt_of_lt_of_le (farLoad_low hf y (by simpa using hy)) hx)
      · simp at h
  | store m a v k ih => intro w w' es es' x hn; exact hn.elim
  | new o k ih =>
    intro w w' es es' x hn h
    simp only [Sem.runT] at h
    exact ih _ _ _ _ _ _ (hn _) h
  | shape o k ih =>
    intro w w' es es' x hn h
    simp only [Sem.runT] at h
    exact ih _ _ _ _ _ _ (hn _) h
  | freeze a n k ih => intro w w' es es' x hn; exact hn.elim
  | frozen o k ih =>
    intro w w' es es' x hn h
    simp only [Sem.runT] at h
    exact ih _ _ _ _ _ _ (hn _) h
  | getObj r k ih =>
    intro w w' es es' x hn h
    have hx := (nw_run P _ _ _ _ _ _ hn h).1.size
    simp only [Sem.runT] at h
    split at h
    · simp at h
    · rename_i o hne ho
      refine fun e he => (ih _ _ _ _ _ _ (hn _) h e he).elim (fun z => ?_) .inr
      rcases Array.mem_push.1 z with z | rfl
      · exact .inl z
      · exact .inr (Nat.lt_of_lt_of_le (Array.getElem?_eq_some_iff.1 ho).1 hx)
    · simp at h
  | setObj r o k ih => intro w w' es es' x hn; exact hn.elim
  | choose q k ih =>
    intro w w' es es' x hn h
    simp only [Sem.runT] at h
    split at h
    · exact ih _ _ _ _ _ _ (hn _) h
    · exact ih _ _ _ _ _ _ (hn _) h
  | sys c k ih => intro w w' es es' x hn; exact hn.elim
  | program k ih =>
    intro w w' es es' x hn h
    simp only [Sem.runT] at h
    exact ih _ _ _ _ _ _ (hn _) h
  | mark m k ih =>
    intro w w' es es' x hn h
    simp only [Sem.runT] at h
    refine fun e he => (ih _ _ _ _ _ hn.2 h e he).elim (fun z => ?_) .inr
    rcases Array.mem_push.1 z with z | rfl
    · exact .inl z
    · rw [hn.1]; exact .inr trivial
  | halt h => intro w w' es es' x _ h; simp [Sem.runT] at h

/-- No call to the outside. -/
def Ns {α : Type} : Sem α → Prop
  | .pure _ => True
  | .load _ _ k => ∀ v, Ns (k v)
  | .store _ _ _ k => Ns k
  | .new _ k => ∀ r, Ns (k r)
  | .shape _ k => ∀ s, Ns (k s)
  | .freeze _ _ k => Ns k
  | .frozen _ k => ∀ b, Ns (k b)
  | .getObj _ k => ∀ o, Ns (k o)
  | .setObj _ _ k => Ns k
  | .choose _ k => ∀ n, Ns (k n)
  | .sys _ _ => False
  | .program k => ∀ p, Ns (k p)
  | .mark _ k => Ns k
  | .halt _ => True
theorem ns_bind' {α β : Type} (x : Sem α) (f : α → Sem β) (hx : Ns x) (hf : ∀ a, Ns (f a)) : Ns (x.bind f) := by
  induction x with
  | pure a => exact hf a
  | load m a k ih => exact fun v => ih v (hx v)
  | store m a v k ih => exact ih hx
  | new o k ih => exact fun v => ih v (hx v)
  | shape o k ih => exact fun v => ih v (hx v)
  | freeze a n k ih => exact ih hx
  | frozen o k ih => exact fun v => ih v (hx v)
  | getObj o k ih => exact fun v => ih v (hx v)
  | setObj r o k ih => exact ih hx
  | choose o k ih => exact fun v => ih v (hx v)
  | sys c k ih => exact hx.elim
  | program k ih => exact fun v => ih v (hx v)
  | mark m k ih => exact ih hx
  | halt h => trivial
theorem ns_bind {α β : Type} {x : Sem α} {f : α → Sem β} (hx : Ns x) (hf : ∀ a, Ns (f a)) : Ns (x >>= f) := ns_bind' x f hx hf
theorem ns_map {α β : Type} {x : Sem α} {f : α → β} (hx : Ns x) : Ns (f <$> x) := ns_bind' x _ hx fun _ => trivial
theorem ns_pure {α : Type} (a : α) : Ns (pure a : Sem α) := trivial
theorem ns_of_nw {α : Type} (x : Sem α) (hx : Nw x) : Ns x := by
  induction x with
  | pure a => trivial
  | load m a k ih => exact fun v => ih v (hx v)
  | store m a v k ih => exact hx.elim
  | new o k ih => exact fun v => ih v (hx v)
  | shape o k ih => exact fun v => ih v (hx v)
  | freeze a n k ih => exact hx.elim
  | frozen o k ih => exact fun v => ih v (hx v)
  | getObj o k ih => exact fun v => ih v (hx v)
  | setObj r o k ih => exact hx.elim
  | choose o k ih => exact fun v => ih v (hx v)
  | sys c k ih => exact hx.elim
  | program k ih => exact fun v => ih v (hx v)
  | mark m k ih => exact ih hx.2
  | halt h => trivial

theorem cell?_at (w : World) (d : Nat) (a : Addr) : (w.at d).cell? a = w.cell? a := rfl
theorem farLoad_at (P : Program) (w : World) (d : Nat) (a : Addr) (b : Bool) : (w.at d).farLoad P a b = w.farLoad P a b := rfl

theorem viewStore_at (P : Program) (w : World) (d : Nat) (x : Addr) (u : TypeId) (a : Addr) (v : Value) (b : Bool) :
    (w.at d).viewStore P x u a v b = (w.viewStore P x u a v b).map fun r => (r.1.at d, r.2) := by
  have hs : (w.at d).seen P x u a b = w.seen P x u a b := rfl
  unfold World.viewStore
  rw [hs]
  simp only [bind, Except.bind, pure, Except.pure, throw, throwThe, MonadExceptOf.throw]
  repeat' (first | rfl | split)
theorem viewStore_drawn (P : Program) (w w' : World) (x : Addr) (u : TypeId) (a : Addr) (v : Value) (b : Bool) (t : List Addr) (h : w.viewStore P x u a v b = .ok (w', t)) : w'.drawn = w.drawn := by
  have h1 := viewStore_at P w w.drawn x u a v b
  have h2 : w.at w.drawn = w := rfl
  rw [h2, h] at h1
  simp only [Except.map, Except.ok.injEq, Prod.mk.injEq, and_true] at h1
  rw [h1]; rfl
theorem farStore_at (P : Program) (w : World) (d : Nat) (a : Addr) (v : Value) (b : Bool) :
    (w.at d).farStore P a v b = (w.farStore P a v b).map fun r => (r.1.at d, r.2) := by
  have hh : (w.at d).heap = w.heap := rfl
  have hn : ∀ s, (w.at d).noCell a s = w.noCell a s := fun _ => rfl
  unfold World.farStore
  rw [hh]
  split
  · rw [viewStore_at]
    cases w.viewStore P _ _ a v b <;> rfl
  · rw [hn]; rfl
theorem farStore_drawn (P : Program) (w w' : World) (a : Addr) (v : Value) (b : Bool) (t : List Addr) (h : w.farStore P a v b = .ok (w', t)) : w'.drawn = w.drawn := by
  have h1 := farStore_at P w w.drawn a v b
  have h2 : w.at w.drawn = w := rfl
  rw [h2, h] at h1
  simp only [Except.map, Except.ok.injEq, Prod.mk.injEq, and_true] at h1
  rw [h1]; rfl

/-- The count of draws only rises. -/
theorem drawn_le {α : Type} (P : Program) (s : Sem α) : ∀ (w w' : World) (es es' : Array Event) (x : α), Ns s → s.runT P w es = (.ok x w', es') → w.drawn ≤ w'.drawn := by
  induction s with
  | pure a =>
    intro w w' es es' x _ h
    simp only [Sem.runT, Prod.mk.injEq, Result.ok.injEq] at h
    obtain ⟨⟨_, rfl⟩, rfl⟩ := h
    exact Nat.le_refl _
  | load m a k ih =>
    intro w w' es es' x hn h
    simp only [Sem.runT] at h
    split at h
    · exact ih _ _ _ _ _ _ (hn _) h
    · split at h
      · exact ih _ _ _ _ _ _ (hn _) h
      · simp at h
  | store m a v k ih =>
    intro w w' es es' x hn h
    cases v <;> simp only [Sem.runT] at h <;> first
      | (simp at h; done)
      | (split at h
         · split at h
           · simp at h
           · have := ih _ _ _ _ _ hn h
             exact this
         · split at h
           · rename_i hf
             have hd := farStore_drawn _ _ _ _ _ _ _ hf
             have := ih _ _ _ _ _ hn h
             omega
           · simp at h)
  | new o k ih =>
    intro w w' es es' x hn h
    simp only [Sem.runT] at h
    have := ih _ _ _ _ _ _ (hn _) h
    exact this
  | shape o k ih =>
    intro w w' es es' x hn h
    simp only [Sem.runT] at h
    exact ih _ _ _ _ _ _ (hn _) h
  | freeze a n k ih =>
    intro w w' es es' x hn h
    simp only [Sem.runT] at h
    have := ih _ _ _ _ _ hn h
    unfold World.freeze at this
    split at this <;> exact this
  | frozen o k ih =>
    intro w w' es es' x hn h
    simp only [Sem.runT] at h
    exact ih _ _ _ _ _ _ (hn _) h
  | getObj r k ih =>
    intro w w' es es' x hn h
    simp only [Sem.runT] at h
    split at h
    · simp at h
    · exact ih _ _ _ _ _ _ (hn _) h
    · simp at h
  | setObj r o k ih =>
    intro w w' es es' x hn h
    simp only [Sem.runT] at h
    split at h
    · simp at h
    · have := ih _ _ _ _ _ hn h
      exact this
    · simp at h
  | choose q k ih =>
    intro w w' es es' x hn h
    simp only [Sem.runT] at h
    split at h
    · exact ih _ _ _ _ _ _ (hn _) h
    · have := ih _ _ _ _ _ _ (hn _) h
      simp only at this
      omega
  | sys c k ih => intro w w' es es' x hn; exact hn.elim
  | program k ih =>
    intro w w' es es' x hn h
    simp only [Sem.runT] at h
    exact ih _ _ _ _ _ _ (hn _) h
  | mark m k ih =>
    intro w w' es es' x hn h
    simp only [Sem.runT] at h
    exact ih _ _ _ _ _ hn h
  | halt h => intro w w' es es' x _ h; simp [Sem.runT] at h

theorem frozen?_at (w : World) (d : Nat) (a : Addr) : (w.at d).frozen? a = w.frozen? a := rfl
theorem heap_at (w : World) (d : Nat) : (w.at d).heap = w.heap := rfl
/-- WHAT DRAWS NOTHING DOES NOT LOOK AT THE COUNT OF DRAWS. -/
theorem runT_at {α : Type} (P : Program) (s : Sem α) : ∀ (w w' : World) (es es' : Array Event) (x : α), Ns s → s.runT P w es = (.ok x w', es') → w'.drawn = w.drawn →
    ∀ d, s.runT P (w.at d) es = (.ok x (w'.at d), es') := by
  induction s with
  | pure a =>
    intro w w' es es' x _ h _ d
    simp only [Sem.runT, Prod.mk.injEq, Result.ok.injEq] at h ⊢
    obtain ⟨⟨rfl, rfl⟩, rfl⟩ := h
    exact ⟨⟨rfl, rfl⟩, rfl⟩
  | load m a k ih =>
    intro w w' es es' x hn h hd d
    simp only [Sem.runT] at h ⊢
    rw [cell?_at, farLoad_at]
    split at h
    · exact ih _ _ _ _ _ _ (hn _) h hd d
    · split at h
      · exact ih _ _ _ _ _ _ (hn _) h hd d
      · simp at h
  | store m a v k ih =>
    intro w w' es es' x hn h hd d
    cases v <;> simp only [Sem.runT] at h ⊢ <;> first
      | (simp at h; done)
      | (rw [cell?_at, farStore_at, frozen?_at]
         split at h
         · split at h
           · simp at h
           · rename_i hz
             simp only [hz]
             exact ih _ _ _ _ _ hn h hd d
         · split at h
           · rename_i hf
             have hd2 := farStore_drawn _ _ _ _ _ _ _ hf
             rw [hf]
             exact ih _ _ _ _ _ hn h (hd.trans hd2.symm) d
           · simp at h)
  | new o k ih =>
    intro w w' es es' x hn h hd d
    simp only [Sem.runT] at h ⊢
    exact ih _ _ _ _ _ _ (hn _) h hd d
  | shape o k ih =>
    intro w w' es es' x hn h hd d
    simp only [Sem.runT] at h ⊢
    exact ih _ _ _ _ _ _ (hn _) h hd d
  | freeze a n k ih =>
    intro w w' es es' x hn h hd d
    simp only [Sem.runT] at h ⊢
    have e : (w.at d).freeze a n = (w.freeze a n).at d := by unfold World.freeze; split <;> rfl
    rw [e]
    refine ih _ _ _ _ _ hn h (hd.trans ?_) d
    unfold World.freeze; split <;> rfl
  | frozen o k ih =>
    intro w w' es es' x hn h hd d
    simp only [Sem.runT] at h ⊢
    exact ih _ _ _ _ _ _ (hn _) h hd d
  | getObj r k ih =>
    intro w w' es es' x hn h hd d
    simp only [Sem.runT, heap_at] at h ⊢
    split at h
    · simp at h
    · exact ih _ _ _ _ _ _ (hn _) h hd d
    · simp at h
  | setObj r o k ih =>
    intro w w' es es' x hn h hd d
    simp only [Sem.runT, heap_at] at h ⊢
    split at h
    · simp at h
    · exact ih _ _ _ _ _ hn h hd d
    · simp at h
  | choose q k ih =>
    intro w w' es es' x hn h hd d
    simp only [Sem.runT] at h ⊢
    split at h
    · rename_i hq
      rw [if_pos hq]
      exact ih _ _ _ _ _ _ (hn _) h hd d
    · have := drawn_le P _ _ _ _ _ _ (hn _) h
      simp only at this
      omega
  | sys c k ih => intro w w' es es' x hn; exact hn.elim
  | program k ih =>
    intro w w' es es' x hn h hd d
    simp only [Sem.runT] at h ⊢
    exact ih _ _ _ _ _ _ (hn _) h hd d
  | mark m k ih =>
    intro w w' es es' x hn h hd d
    simp only [Sem.runT] at h ⊢
    exact ih _ _ _ _ _ hn h hd d
  | halt h => intro w w' es es' x _ h; simp [Sem.runT] at h
end Go.Proofs.Ythnfheohfnhcpaa.Y
