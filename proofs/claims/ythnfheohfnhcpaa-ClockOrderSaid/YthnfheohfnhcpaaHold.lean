/- The engine of the goroutine that holds the token: whatever it does, the run comes to a good end. -/
import Derived.Test.YthnfheohfnhcpaaEng
import Derived.Conc.Token
import Derived.Conc.TokenWalk
set_option linter.unusedSimpArgs false
set_option linter.unusedVariables false
namespace Go.Proofs.Ythnfheohfnhcpaa.Y
open Go Go.Conc
open Go.ConcN (sumTo upd sumTo_upd upd_ne upd_same)

/-- From this machine, with this trace behind it, the run comes to a good end. -/
def Wins (P : Program) (Post : Value → World → Prop) (m : Machine) (t : Trace) : Prop :=
  ∃ N last o w' t', runNT P (N + 1) m t = (.ended o w', t') ∧ runN P N m = .next last ∧ step P last = .ended o w' ∧ Good P Post last o w' t'
section
variable {P : Program} {Post : Value → World → Prop}
theorem wins_step {m m' : Machine} {t : Trace} {ops : Array MemOp} (hs : stepT P m = (.next m', ops)) (h : Wins P Post m' (t ++ ops)) : Wins P Post m t := by
  obtain ⟨n, last, o, w, t', h1, h2, h3, h4⟩ := h
  exact ⟨n + 1, last, o, w, t', by rw [runNT_succ_next hs]; exact h1, by rw [runN_succ_next hs]; exact h2, h3, h4⟩
theorem wins_run : ∀ {N : Nat} {m m' : Machine} {t t' : Trace}, runNT P N m t = (.next m', t') → Wins P Post m' t' → Wins P Post m t := by
  intro N
  induction N with
  | zero =>
    intro m m' t t' h hw
    simp only [runNT, Prod.mk.injEq, Stepped.next.injEq] at h
    obtain ⟨rfl, rfl⟩ := h
    exact hw
  | succ N ih =>
    intro m m' t t' h hw
    cases hs : stepT P m with
    | mk r ops =>
      cases r with
      | next m₁ => rw [runNT_succ_next hs] at h; exact wins_step hs (ih h hw)
      | ended o w => simp [runNT, hs] at h

theorem some_low (e : Event) : ∃ B, (MemAct.ofEvent e).low B := by
  have key : ∀ x : MemAct, ∃ B, x.low B := by
    intro x
    cases x with
    | access e => cases hl : e.loc with
      | cell a => exact ⟨a.block + 1, by simp [MemAct.low, hl, Loc.low]⟩
      | obj r => exact ⟨r + 1, by simp [MemAct.low, hl, Loc.low]⟩
      | _ => exact ⟨0, by simp [MemAct.low, hl, Loc.low]⟩
    | mark m => cases m <;> first | exact ⟨0, trivial⟩ | exact ⟨_, Nat.lt_succ_self _⟩
    | go _ | start => exact ⟨0, trivial⟩
    | send _ _ | sendDone _ _ | recv _ _ _ | recvDone _ _ | close _ | recvClosed _ => exact ⟨_, Nat.lt_succ_self _⟩
  exact key _
theorem all_low (es : Array Event) (B : Nat) : ∃ B', B ≤ B' ∧ ∀ e ∈ es, (MemAct.ofEvent e).low B' := by
  obtain ⟨l⟩ := es
  induction l with
  | nil => exact ⟨B, Nat.le_refl _, by simp⟩
  | cons e l ih =>
    obtain ⟨B₁, h1, h2⟩ := ih
    obtain ⟨B₂, h3⟩ := some_low e
    refine ⟨max B₁ B₂, by omega, fun x hx => ?_⟩
    simp only [List.mem_toArray, List.mem_cons] at hx
    rcases hx with rfl | hx
    · exact MemAct.low_mono (Nat.le_max_right _ _) h3
    · exact MemAct.low_mono (Nat.le_max_left _ _) (h2 x (by simpa using hx))

/-- The ghost state of the holder. -/
structure Gh where
  δ : Nat
  n : Nat
  Mem : Nat → Prop
  Inb : Nat → Option Seat
  St : Addr → Prop
  sv : Addr → Option Value
def Gh.K (σ : Gh) (w : World) : Prop := ∀ a, σ.St a → (w.cell? a).isSome ∧ w.cell? a = σ.sv a
def Gh.Still (σ : Gh) : Loc → Prop := fun l => ∃ a, l = .cell a ∧ σ.St a
def Gh.free (σ : Gh) : Prop := (∀ i, σ.Inb i = none) ∧ ∀ i, ¬ σ.Mem i
theorem Gh.K_at (σ : Gh) : ∀ w d, σ.K w → σ.K (w.at d) := fun _ _ h => h

theorem Sits.mono {P : Program} {main : Bool} {K K' : World → Prop} {Still Still' : Loc → Prop} {B B' : Nat} {s : Seat} {n : Nat} {g : Goroutine} (hB : B ≤ B') (hKK : ∀ w, K' w → K w) (hSS : ∀ l, Still l → Still' l) (h : Sits P main K Still B s n g) : Sits P main K' Still' B' s n g := by
  have hE : ∀ e, EvC Still B e → EvC Still' B' e := fun e ⟨a, h1, h2, h3⟩ => ⟨a, h1, hSS _ h2, Nat.lt_of_lt_of_le h3 hB⟩
  have hA : ∀ g g₂, AtIn P main K Still B s g g₂ → AtIn P main K' Still' B' s g g₂ := fun g g₂ ⟨a, b, c, d, e, es, f, k⟩ => ⟨a, b, c, d, e, es, fun x hx => hE x (f x hx), fun w hw => k w (hKK w hw)⟩
  have hGo : ∀ {k : Nat} {g : Goroutine} {w : World}, Goes P main (RK K) (DS Still B) (fun g _ => ∃ g₂, AtIn P main K Still B s g g₂) k g w → Goes P main (RK K') (DS Still' B') (fun g _ => ∃ g₂, AtIn P main K' Still' B' s g g₂) k g w := by
    intro k
    induction k with
    | zero => exact fun h w' hw => (h w' (hKK _ hw)).imp fun g₂ => hA _ g₂
    | succ k ih =>
      intro g w h
      rcases h with h | ⟨hr, hst⟩
      · exact .inl fun w' hw => (h w' (hKK _ hw)).imp fun g₂ => hA _ g₂
      · refine .inr ⟨hr, fun w' hw => ?_⟩
        have := hst w' (hKK _ hw)
        cases hgo : stepG P main g w' with
        | go a' w'' es => rw [hgo, goes_go] at this; rw [goes_go]; exact ⟨⟨this.1.1, fun e he => hE e (this.1.2 e he)⟩, ih this.2⟩
        | _ => rw [hgo] at this; exact this.elim
  rcases h with ⟨k, w, h1, h2⟩ | ⟨h1, g₀, g₂, h2, h3⟩
  · exact .inl ⟨k, w, h1, hGo h2⟩
  · exact .inr ⟨h1, g₀, g₂, h2, hA _ _ h3⟩

section
variable {σ : Gh} {B h : Nat} {T : Trace} {gs : Array Goroutine} {w w' : World} {q : Nat → Nat}
theorem ring_mono {B' : Nat} (C : Ring P σ.K σ.Still B σ.Mem σ.Inb h T gs w q) (hB : B ≤ B') : Ring P σ.K σ.Still B' σ.Mem σ.Inb h T gs w q :=
  Ring.mono C hB fun i g hi hg => by
    have := C.idle i g hi hg
    cases e : σ.Inb i with
    | none => rw [e] at this; exact this
    | some s => rw [e] at this; exact Sits.mono hB (fun _ x => x) (fun _ x => x) this
theorem ok_still {es : Array Event} (hok : Ok σ.St w w' es) : ∀ e ∈ es, ∀ x, (MemAct.ofEvent e).touch? = some x → σ.Still x.loc → x.write = false := by
  intro e he x hx ⟨a, hl, hS⟩
  have h1 := hok.ev e he
  have h2 := hok.mute e he
  obtain ⟨loc, wr, sy⟩ := e
  cases loc with
  | mark m =>
    have hq := h2 m rfl
    cases m <;> simp_all [MemAct.ofEvent, MemAct.touch?, Quiet]
  | cell b =>
    simp only [ofEvent_cell0, MemAct.touch?, Option.some.injEq] at hx
    subst hx
    simp only [Loc.cell.injEq] at hl
    subst hl
    cases wr with
    | false => rfl
    | true => exact absurd hS (h1 b rfl rfl)
  | obj r => cases wr <;> cases sy <;> simp_all [MemAct.ofEvent, MemAct.touch?] <;> (subst hx; simp at hl)
  | output => simp_all [MemAct.ofEvent, MemAct.touch?]; first | (subst hx; simp at hl) | skip
  | goroutines => simp_all [MemAct.ofEvent, MemAct.touch?]; first | (subst hx; simp at hl) | skip

/-- The holder's own step, with words of deafness where nobody else has a part. -/
theorem own_any {a a' : Goroutine} {es : Array Event} (C : Ring P σ.K σ.Still w.heap.size σ.Mem σ.Inb h T gs w q) (ha : gs[h]? = some a) (hok : Ok σ.St w w' es) (hm : NoMark es ∨ σ.free) :
    Ring P σ.K σ.Still w'.heap.size σ.Mem σ.Inb h (T ++ MemOp.ofEvents h a.frame.fn a.frame.place es) ((gs.map (woken P a a' w')).setIfInBounds h a') w' q ∧ ((gs.map (woken P a a' w')).setIfInBounds h a')[h]? = some a' := by
  have hB := hok.grow
  have hlow := hok.low
  generalize w'.heap.size = B' at *
  have hK : σ.K w → σ.K w' := fun hk a hS => by
    obtain ⟨h1, h2⟩ := hk a hS
    have h3 := (hok.cell a hS h1).1
    exact ⟨by rw [h3]; exact h1, by rw [h3]; exact h2⟩
  have hch : ∀ i s c, σ.Inb i = some s → s.has c → w'.heap[c]? = w.heap[c]? := fun i s c e hc => by
    obtain ⟨cap, k, hk⟩ := C.chans i s c (fun z => z) e hc
    exact hok.chan _ _ _ _ _ _ _ hk
  have C := ring_mono C hB
  rcases hm with hm | hfree
  · exact Ring.own C ha ⟨hK, hch, fun e he => ⟨ok_still hok e he, fun hl => (by have := hm e he _ hl; cases this), fun hl => (by have := hm e he _ hl; cases this), hlow e he⟩⟩
  · have hlt : h < gs.size := (Array.getElem?_eq_some_iff.1 ha).1
    have hops : ∀ op ∈ MemOp.ofEvents h a.frame.fn a.frame.place es, op.g = h := fun op hop => by obtain ⟨e, _, rfl⟩ := Go.Conc.mem_ofEvents hop; rfl
    have C' : TokCore P σ.K σ.Still B' (fun t => Knows t h) σ.Mem (fun g => g ≠ h ∧ (σ.Inb g).isSome) σ.Inb (· = h) (fun _ => False) T gs w' q :=
      ⟨C.idle, fun i s c hi e hc => by obtain ⟨cap, k, hk⟩ := C.chans i s c hi e hc; exact ⟨cap, k, by rw [hch i s c e hc]; exact hk⟩, C.wf, C.live, C.inj, C.above, C.mem, C.nomem, C.lo, C.past, hK C.keep⟩
    refine ⟨⟨fun x y hx hy => ?_, C'.chans, C.wf, fun _ _ hx => hx.elim, C.inj, fun j hj => ?_, C.mem, C.nomem, C.lo, ?_, C'.keep⟩, Array.getElem?_setIfInBounds_self_of_lt (by simpa using hlt)⟩
    · rw [Array.getElem?_setIfInBounds_ne (fun e => hx e.symm), Array.getElem?_map] at hy
      obtain ⟨y₀, hy₀, rfl⟩ := Option.map_eq_some_iff.1 hy
      rw [woken_of_again (C'.fixed hx hy₀)]
      have hi := C.idle x y₀ hx hy₀
      cases es' : σ.Inb x with
      | none => rw [es'] at hi; exact ⟨hi.1, by rw [Deaf_other T (fun z => hx z.symm) _ hops]; exact hi.2⟩
      | some s => rw [es'] at hi; exact hi
    · simp only [Array.size_setIfInBounds, Array.size_map] at hj
      rw [Deaf_other T (g' := h) (by omega) _ hops]
      exact C.above j hj
    · have H := C.past
      refine ⟨fun said => noRace_append (H.clean said) hops fun i x hx op hop b hb hc => ?_, fun i x hx hm => ?_, fun i x hx hw hS g hg => absurd hg (hfree.2 g), fun g hg => absurd hg (hfree.2 g), seen_app H.seen fun op hop => ?_⟩
      · exact (H.known i x hx hc.2.1).elim id fun ⟨_, _, g, _, hl⟩ => by rw [hfree.1 g] at hl; exact absurd hl.2 (by simp)
      · obtain ⟨z, hz, hza⟩ := touch_of hx
        rcases getElem?_append_cases hz with ⟨_, hz'⟩ | ⟨_, hzu⟩
        · exact H.old_known (fun i => Knows.app _) hz' hza hm
        · have := knows_own hz
          rw [hops z hzu] at this
          exact .inl this
      · obtain ⟨e, he, rfl⟩ := Go.Conc.mem_ofEvents hop
        exact hlow e he
end

/-- WHAT IS KNOWN OF THE HOLDER: wherever the frame holds with its ghost state, the run comes to a good end. -/
def HoldRun (P : Program) (Post : Value → World → Prop) (h : Nat) (σ : Gh) (g : Goroutine) (w : World) : Prop :=
  ∀ (d : Nat) (T : Trace) (gs : Array Goroutine) (sl : Option (Nat × Nat)) (q : Nat → Nat), Ring P σ.K σ.Still w.heap.size σ.Mem σ.Inb h T gs (w.at d) q → gs[h]? = some g → gs.size = σ.n → Deaf T h = σ.δ → Wins P Post (crowd gs (w.at d) sl) T

theorem hold_step {h : Nat} {σ : Gh} {g : Goroutine} {w : World} (hf : σ.free ∨ σ.Mem h) (hrun : g.status = .running)
    (H : ∀ d, ∃ g' w' es, stepG P (h == 0) g (w.at d) = .go g' w' es ∧ Ok σ.St (w.at d) w' es ∧ (NoMark es ∨ σ.free) ∧ HoldRun P Post h { σ with δ := deafBehind σ.δ es } g' w') : HoldRun P Post h σ g w := by
  intro d T gs sl q C hg hn hδ
  generalize hμ : sumTo gs.size q = μ
  induction μ using Nat.strongRecOn generalizing d T gs sl q with
  | _ μ ih =>
    obtain ⟨i, x, d', sl', hi, hx, hst⟩ := crowd_pick (P := P) (w := w.at d) (sl := sl) (C.awake hg (.inl hrun)) ⟨h, g, hg, hrun⟩
    rw [at_at'] at hst
    have Cd : Ring P σ.K σ.Still (w.at d').heap.size σ.Mem σ.Inb h T gs (w.at d') q := TokCore.at σ.K_at C d'
    by_cases e : i = h
    · subst e
      obtain rfl : x = g := by rw [hg] at hi; exact (Option.some.inj hi).symm
      obtain ⟨g', w', es, hgo, hok, hm, hR⟩ := H d'
      obtain ⟨C', ha'⟩ := own_any (a' := g') Cd hi hok hm
      refine wins_step (hst.trans (runT_crowd_go (sl := sl') hi hgo)) ?_
      have := hR w'.drawn _ _ sl' q (by exact C') ha' (by simpa using hn) (by rw [Deaf_own, hδ])
      exact this
    · obtain ⟨gs', ops, q', hrt, hsz', hsp, _, _, C', hlt⟩ := TokCore.by_step (sl := sl') (fun t u i => Knows.app u) Cd hi e hx
        (fun x gx hx hgx => by subst hx; rw [hg] at hgx; obtain rfl := Option.some.inj hgx; exact again_of_running (.inl hrun) _) (fun hD => hD.elim)
        (fun s g₂ _ _ => ⟨fun hD => hD, fun x gx c hx hgx _ => by subst hx; rw [hg] at hgx; obtain rfl := Option.some.inj hgx; exact offersAt_of_not_blocked (by rw [hrun]; simp) _ _⟩)
      refine wins_step (hst.trans hrt) ?_
      refine ih _ (by rw [← hμ, hsz']; exact hlt) d' (T ++ ops) gs' sl' q' C' (by rw [hsp h rfl]; exact hg) (hsz'.trans hn) ?_ rfl
      rcases hf with hf | hf
      · have hid := C.idle i x e hi
        rw [hf.1 i] at hid
        obtain ⟨hpos, hid⟩ := hid
        have hi0 : (i == 0) = false := by simp; omega
        cases hqi : q i with
        | zero => rw [hqi] at hid; rw [hid.1] at hx; cases hx
        | succ k =>
          rw [hqi] at hid
          rcases hid with ⟨hfin, _⟩ | ⟨_, x', es, hm, hstp, hq'⟩
          · rw [hfin] at hx; cases hx
          have hrunT := runT_crowd_go (P := P) (sl := sl') (i := i) hi (by rw [hi0]; exact hstp (w.at d'))
          rw [hrt] at hrunT
          have ho := congrArg Prod.snd hrunT
          simp only at ho
          rw [ho, Deaf_other T (g' := i) e _ (fun op hop => by obtain ⟨e, _, rfl⟩ := Go.Conc.mem_ofEvents hop; rfl)]
          exact hδ
      · rw [C'.past.hears h hf, ← hδ, C.past.hears h hf]

/-- What is asked of a ghost state under which the holder walks. -/
def Gh.may (σ : Gh) (h : Nat) : Prop := σ.free ∨ σ.Mem h
theorem deafBehind_nm {es : Array Event} (hm : NoMark es) (d : Nat) : deafBehind d es = d :=
  deafBehind_still (fun e he => ⟨fun hl => (by have := hm e he _ hl; cases this), fun hl => (by have := hm e he _ hl; cases this)⟩) d

variable (P Post) in
/-- THE ENGINE OF THE HOLDER. -/
def holdE (h : Nat) : Eng P Gh where
  main := h == 0
  Run σ g w := σ.may h → HoldRun P Post h σ g w
  still σ := σ.St
  mayMark σ := σ.free
  after σ es := { σ with δ := deafBehind σ.δ es }
  after_nm σ es hm := by simp only [deafBehind_nm hm]
  after_pair σ := by simp [deafBehind]
  after_other σ m h1 h2 := by
    have : deafBehind σ.δ #[⟨.mark m, false, true⟩] = σ.δ := deafBehind_still (fun e he => by simp at he; subst he; exact ⟨by simpa using h1, by simpa using h2⟩) _
    simp only [this]
  mayMark_after σ es hm := hm
  still_after σ es := rfl
  rel h d hm := fun d' T gs sl q C => h hm d' T gs sl q C
  step {σ g w} hs H hm := hold_step hm hs fun d => by
    obtain ⟨g', w', es, h1, h2, h3, h4⟩ := H d
    exact ⟨g', w', es, h1, h2, h3, h4 hm⟩

/-- THE LAST STEP. -/
theorem hold_ends {f : FuncId} {fnc : Func} {σ : Gh} {a : Act} {w : World} {todo : List Item} {v : Value} (hin : P.inits.idxOf? f = none) (hd : a.defers = []) (hf : P.funcs[f]? = some fnc)
    (hr : (results fnc a.tmps).run P w = .ok v w) (hfree : σ.free) (hδ : σ.δ = 0) (hpost : ∀ d, Post v (w.at d)) : HoldRun P Post 0 σ (G { (base f).at a todo with mode := .returning } []) w := by
  intro d T gs sl q C hg hn hDeaf
  have hnw := nw_results fnc a.tmps
  have hrT : (results fnc a.tmps).runT P w #[] = (.ok v w, (results fnc a.tmps).events P w #[]) := by rw [Sem.runT_eq, hr]
  obtain ⟨_, he⟩ := nw_run P _ _ _ _ _ _ hnw hrT
  have he' : ∀ e ∈ (results fnc a.tmps).events P w #[], Rd e := fun e hm => (he e hm).elim (fun z => by simp at z) id
  have hlow : ∀ e ∈ seen P f ((results fnc a.tmps).events P w #[]), (MemAct.ofEvent e).low w.heap.size := fun e hm => (nw_low P _ _ _ _ _ _ hnw hrT e (mem_seen hm)).elim (fun z => by simp at z) id
  generalize w.heap.size = B' at *
  have hL : Leavers P T gs q := ⟨fun i x hi hx => by have := C.idle i x (by omega) hx; rw [hfree.1 i] at this; exact this.2, C.above⟩
  have hk : ∀ i x, touchAt T i = some x → x.loc.isMemory = true → Knows T 0 i := fun i x hx hm => (C.past.known i x hx hm).elim id fun ⟨_, _, g, _, hl⟩ => by rw [hfree.1 g] at hl; exact absurd hl.2 (by simp)
  have hP : Past (fun _ => False) B' T := by
    refine ⟨C.past.clean, fun i x hx hm => .inl (hk i x hx hm), fun i g hg' hne ⟨x, hx, hm, _⟩ => ?_, by rw [hDeaf, hδ], C.past.seen⟩
    obtain ⟨q, z, hq, hz, hb⟩ := hk i x hx hm
    rcases hb with rfl | hb
    · rw [g?_of hq, hz] at hg'
      exact absurd (Option.some.inj hg').symm hne
    · exact ⟨q, by rw [g?_of hq, hz], hb⟩
  refine beside_ends (n := 0) (D := fun _ _ es => ∀ e ∈ es, EvL (fun _ => False) B' e) (fun _ _ _ h => h) hg hL hP ?_
  intro w₁ ⟨d₁, hw₁⟩
  subst hw₁
  have hrd := runT_at P _ _ _ _ _ _ (ns_of_nw _ hnw) hrT rfl d₁
  rw [Sem.runT_eq] at hrd
  have h1 := congrArg Prod.fst hrd
  have h2 := congrArg Prod.snd hrd
  simp only at h1 h2
  refine ⟨rfl, v, seen P f ((results fnc a.tmps).events P w #[]), ?_, fun e hem => ?_, hpost d₁⟩
  · show stepG P true (G { (base f).at a todo with mode := .returning } []) (w.at d₁) = _
    simp [G, stepG, unwind, doReturn, Frame.at, base, hd, hf, h1, h2, GStep.after, hin]
    rfl
  · have hrd := he' e (mem_seen hem)
    refine ⟨fun x _ hx => hx.elim, hrd.2.1, hrd.2.2.1, hlow e hem⟩

/-- What the body of the whole call must achieve. -/
def topY (P : Program) (Post : Value → World → Prop) (fn : Func) : Gh → Exit → Act → World → Prop
  | σ, .normal, a, w | σ, .ret, a, w => a.defers = [] ∧ (∃ v, (results fn a.tmps).run P w = .ok v w ∧ ∀ d, Post v (w.at d)) ∧ σ.free ∧ σ.δ = 0
  | _, _, _, _ => False
def gh0 : Gh := { δ := 0, n := 1, Mem := fun _ => False, Inb := fun _ => none, St := fun _ => False, sv := fun _ => none }
theorem gh0_free : gh0.free := ⟨fun _ => rfl, fun _ h => h⟩
/-- THE WHOLE RUN. -/
theorem run_of {f : FuncId} {fnc : Func} {c : Code} {args : Array Value} {W : World} (hin : P.inits.idxOf? f = none) (hf : P.funcs[f]? = some fnc) (hb : fnc.body = some c)
    (h : CodeY (holdE P Post 0) f c (topY P Post fnc) gh0 { tmps := args ++ Array.replicate (fnc.ntmps - args.size) undef, defers := [] } W) :
    ∃ M last o w' t', runNT P (M + 1) (solo (G (Frame.enter P f args .normal) []) W) #[] = (.ended o w', t') ∧ runN P M (solo (G (Frame.enter P f args .normal) []) W) = .next last ∧ step P last = .ended o w' ∧ Good P Post last o w' t' := by
  have hR : HoldRun P Post 0 gh0 (G (Frame.enter P f args .normal) []) W := by
    rw [enter_at args hf hb]
    refine h (base f) [] [] rfl (by simp [base]) (fun σ' e a' w' q => ?_) (.inl gh0_free)
    cases e with
    | normal => exact Eng.ctl (E := holdE P Post 0) rfl (fun _ => stepG_end) (fun _ => by obtain ⟨h1, ⟨v, h2, h3⟩, h4, h5⟩ := q; exact hold_ends hin h1 hf h2 h4 h5 h3)
    | ret => exact fun todo _ => by obtain ⟨h1, ⟨v, h2, h3⟩, h4, h5⟩ := q; exact hold_ends hin h1 hf h2 h4 h5 h3
    | panic ch => exact q.elim
    | exit id => exact q.elim
    | goto l => exact q.elim
    | outgrown => exact q.elim
  rw [solo_eq_crowd]
  have hP : PastG gh0.Still gh0.Mem (fun g => g ≠ 0 ∧ (gh0.Inb g).isSome) 0 (Knows #[] 0) #[] :=
    ⟨past_nil.clean, fun i a ha => by simp [touchAt, Trace.act?] at ha, fun i a ha => by simp [touchAt, Trace.act?] at ha, fun _ h => h.elim, by simp⟩
  refine hR W.drawn #[] #[G (Frame.enter P f args .normal) []] none (fun _ => 0) ?_ rfl rfl rfl
  refine ⟨fun i g hi hg => ?_, fun _ _ _ _ e => (by cases e), fun _ _ e => (by cases e), fun _ _ z => z.elim, fun _ _ _ _ _ e => (by cases e), fun j _ => rfl, fun _ _ e => (by cases e), fun _ h => h.elim, fun _ _ _ e => (by cases e), hP.mono (Nat.zero_le _), fun _ h => h.elim⟩
  have : i < 1 := by simpa using (Array.getElem?_eq_some_iff.1 hg).1
  omega
end
end Go.Proofs.Ythnfheohfnhcpaa.Y
