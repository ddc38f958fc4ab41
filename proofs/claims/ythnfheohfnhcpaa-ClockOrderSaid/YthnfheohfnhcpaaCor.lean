/- ClockOrder: what a ring lists; the rings of one 'Advance'. -/
import Derived.Test.YthnfheohfnhcpaaCla
import Derived.Test.YthnfheohfnhcpaaNap
import Derived.Test.YthnfheohfnhcpaaPrl
set_option linter.unusedSimpArgs false
set_option linter.unusedVariables false
set_option maxRecDepth 20000
set_option maxHeartbeats 4000000
namespace Go.Proofs.Ythnfheohfnhcpaa.Y
open Go Go.Conc Go.Proofs
variable {S : Type} {E : Eng Try.prog S}

theorem obj_cell {u : World} {b o : Nat} {cs : Array Value} {t : TypeId} {f : Nat × Nat} {v : Value} (h : u.heap[b]? = some (.cells cs t f)) (hv : cs[o]? = some v) : u.cell? ⟨b, o, none⟩ = some v := by
  unfold World.cell?; simp only; rw [h]; simpa using hv
theorem obj_fz {u : World} {b : Nat} {cs : Array Value} {t : TypeId} (h : u.heap[b]? = some (.cells cs t (0, 0))) (o : Nat) : u.frozen? ⟨b, o, none⟩ = false := by
  unfold World.frozen?; simp only; rw [h]; simp
theorem ring_call {σ : S} {u : World} {R x r base : Nat} {m : Int} {v : Value} {xs : List Value} (hL : Lone E σ) (hR : u.heap[R]? = some (.cells #[v] 45 (0, 0))) (hx : u.cell? ⟨x, 0, none⟩ = some (.int .i64 m)) (hrow : u.ownsRow base 3 1 v r xs) (hr : r ≤ 100) (hb : base ≤ u.heap.size) :
    CallR E 32 #[.pointer none, .pointer (some ⟨R, 0, none⟩), .pointer (some ⟨x, 0, none⟩)] σ u (fun s _ u2 => s = σ ∧ Chg (fun y => y = R ∨ v.ownBlock = some y) u u2 ∧ ∃ v', u2.heap[R]? = some (.cells #[v'] 45 (0, 0)) ∧ u2.ownsRow base 3 1 v' (r + 1) (xs ++ [.int .i64 m])) := by
  have hs := hL.no
  have h1 : u.cell? ⟨R, 0, none⟩ = some v := obj_cell hR rfl
  refine callR_of Try.func32 (by kernel_rfl) rfl ?_; simp only [Try.ntmps32, List.size_toArray, List.length_cons, List.length_nil, Nat.reduceAdd, Nat.reduceSub, Array.replicate_succ, Array.replicate_zero, List.push_toArray, List.append_toArray, List.nil_append, List.cons_append]
  repeat (first | (first | refine codeY_seq ?_ | refine codeY_block ?_ | refine codeY_ret ?_ | refine codeY_skip ?_ | refine codeY_exit ?_ | refine codeY_label ?_ | refine thenY_n ?_ | refine thenY_e ?_ | refine thenY_r ?_ | refine blockY_n ?_ | refine blockY_e ?_ | refine blockY_r ?_ | refine blockY_o rfl ?_ | refine codeY_condT rfl ?_ | refine codeY_condF rfl ?_) | (refine codeY_region_k (fun K hK => ?_); simp only [List.size_toArray, List.length_cons, List.length_nil, Nat.reduceAdd, Nat.zero_add, List.range, List.range.loop]) | (refine opsY_nil ?_; refine hK _ _ _ _ ?_; clear hK K) | (first | (first | (refine opsY_move rfl rfl ?_; walk_nrm) | (refine opsY_assign rfl rfl ?_; walk_nrm)) | (refine opsY_unwanted rfl rfl ?_; walk_nrm) | (refine opsY_nw rfl rfl (nw_of (by rfl)) (fun Ky hKy => ?_); go_simp; refine hKy _ _ ⟨rfl, fun Kx => ?_⟩; clear Kx hKy Ky)))
  have hrow4 := own_chg (w' := u.alloc (.cells #[.int .i64 m] 3)) hrow ((Chg.refl (fun _ => False) u).alloc _) (fun _ _ x => x)
  have hsz : u.heap.size < (u.alloc (.cells #[.int .i64 m] 3)).heap.size := by rw [World.size_alloc]; omega
  refine opsY_app 1 8 (.int .i64 0) (g := u.heap.size) [.int .i64 m] Try.underlying45 (by kernel_rfl) rfl (by omega) (by omega) hrow4 rfl (fun j' y hy => cells_alloc _ _ (by simpa using hy)) (by intro y hy; simp at hy; subst hy; rfl) (by omega) (by omega) hs hsz rfl rfl rfl rfl rfl (fun v' w5 hrow5 hch => ?_)
  have hc5 : Chg (fun y => v.ownBlock = some y) u w5 := ((Chg.refl _ u).alloc _).trans hch (fun _ _ x => x)
  have ho5 : w5.heap[R]? = some (.cells #[v] 45 (0, 0)) := (hc5.keep R (Array.getElem?_eq_some_iff.1 hR).1 (fun y => own_type hrow y hR (by decide) rfl)).trans hR
  have h5 := obj_cell (o := 0) (v := v) ho5 rfl
  obtain ⟨pq, cq, rfl⟩ := own_val hrow5
  clear hrow4 hsz hch
  walk_nrm
  (refine opsY_store1 rfl rfl (by kernel_rfl) rfl rfl rfl rfl h5 (obj_fz ho5 _) (hs _) ?_; walk_nrm)
  have ho6 := heap_setCell_cells (a := ⟨R, 0, none⟩) (v := .slice pq (r + 1) cq) ho5 rfl
  have hrow6 := own_chg hrow5 ((Chg.refl (fun y => y = R) w5).setCell (a := ⟨R, 0, none⟩) (.slice pq (r + 1) cq) (.inl rfl)) (fun g hg y => by subst y; exact own_type hrow5 hg ho5 (by decide) rfl)
  have hc6 := (hc5.mono (T' := fun y => y = R ∨ v.ownBlock = some y) (fun _ _ x => .inr x)).setCell (a := ⟨R, 0, none⟩) (.slice pq (r + 1) cq) (.inl (.inl rfl))
  repeat (first | (first | refine codeY_seq ?_ | refine codeY_block ?_ | refine codeY_ret ?_ | refine codeY_skip ?_ | refine codeY_exit ?_ | refine codeY_label ?_ | refine thenY_n ?_ | refine thenY_e ?_ | refine thenY_r ?_ | refine blockY_n ?_ | refine blockY_e ?_ | refine blockY_r ?_ | refine blockY_o rfl ?_ | refine codeY_condT rfl ?_ | refine codeY_condF rfl ?_) | (refine codeY_region_k (fun K hK => ?_); simp only [List.size_toArray, List.length_cons, List.length_nil, Nat.reduceAdd, Nat.zero_add, List.range, List.range.loop]) | (refine opsY_nil ?_; refine hK _ _ _ _ ?_; clear hK K) | (first | (first | (refine opsY_move rfl rfl ?_; walk_nrm) | (refine opsY_assign rfl rfl ?_; walk_nrm)) | (refine opsY_unwanted rfl rfl ?_; walk_nrm) | (refine opsY_nw rfl rfl (nw_of (by rfl)) (fun Ky hKy => ?_); go_simp; refine hKy _ _ ⟨rfl, fun Kx => ?_⟩; clear Kx hKy Ky)))
  (first | refine bodyY_ret rfl (results_1 Try.results32) ?_ | refine bodyY_ret rfl (results_0 Try.results32) ?_ | refine bodyY_ret rfl (results_2 Try.results32) ?_ | refine bodyY_ret rfl (results_3 Try.results32) ?_ | refine bodyY_end rfl (results_1 Try.results32) ?_ | refine bodyY_end rfl (results_0 Try.results32) ?_ | refine bodyY_end rfl (results_2 Try.results32) ?_ | refine bodyY_end rfl (results_3 Try.results32) ?_)
  exact ⟨rfl, hc6, _, ho6, hrow6⟩
/-- Before: by the due time; of the same, the one with the lesser number. -/
def lex (dd : Nat → Int) (x y : Nat) : Prop := dd x < dd y ∨ (dd x = dd y ∧ x < y)
def cnt (st : Nat → Int) : Nat → Nat
  | 0 => 0
  | n + 1 => cnt st n + if st n = 2 then 1 else 0
theorem cnt_le (st : Nat → Int) : ∀ n, cnt st n ≤ n
  | 0 => Nat.le_refl _
  | n + 1 => by have := cnt_le st n; unfold cnt; split <;> omega
theorem cnt_congr {st st' : Nat → Int} : ∀ n, (∀ j, j < n → st' j = st j) → cnt st' n = cnt st n
  | 0, _ => rfl
  | n + 1, h => by unfold cnt; rw [cnt_congr n (fun j hj => h j (by omega)), h n (by omega)]
theorem cnt_up {st : Nat → Int} {m : Nat} {v : Int} (h2 : st m = 2) (hv : v ≠ 2) : ∀ n, m < n → cnt (up st m v) n + 1 = cnt st n
  | 0, h => by omega
  | n + 1, h => by
    unfold cnt
    by_cases e : m = n
    · subst e
      rw [cnt_congr m (fun j hj => up_ne st v (by omega)), up_same, if_neg hv, if_pos h2]
    · rw [up_ne st v (fun x => e x.symm)]
      have := cnt_up h2 hv n (by omega)
      omega
def coF (b : Nat) (X : Nat → Nat) (j : Nat) : Value := .func (.func 32) #[] #[.pointer (some ⟨b + 35, 0, none⟩), .pointer (some ⟨X j, 0, none⟩)]
/-- What stands when 'Advance' begins. -/
structure CoB (w0 : World) (b n : Nat) (st0 : Nat → Int) (fs0 : Nat → Value) (X : Nat → Nat) : Prop where
  n16 : n ≤ 16
  s : ∀ j, st0 j = 0 ∨ st0 j = 2 ∨ st0 j = 4
  s2 : ∀ j, st0 j = 2 → j < n
  f : ∀ j, j < n → fs0 j = coF b X j
  x : ∀ j, j < n → w0.cell? ⟨X j, 0, none⟩ = some (.int .i64 (j : Int))
  xo : ∀ j, j < n → b + 35 < X j
  hb : b + 35 < w0.heap.size
/-- .. and what after some rings. -/
structure RIx (w0 : World) (b : Nat) (t : Int) (st0 due0 : Nat → Int) (fs0 : Nat → Value) (L : List Nat) (v : Value) (r : Nat) (st due : Nat → Int) (fs : Nat → Value) (u : World) : Prop where
  ch : Chg (fun x => InClk b x ∨ x = b + 35) w0 u
  len : L.length = r
  obj : u.heap[b + 35]? = some (.cells #[v] 45 (0, 0))
  row : u.ownsRow w0.heap.size 3 1 v r (L.map fun (j : Nat) => Value.int .i64 (j : Int))
  due : due = due0
  fs : fs = fs0
  inn : ∀ j, j ∈ L → st j = 4 ∧ st0 j = 2 ∧ j < 16 ∧ due0 j ≤ t
  out : ∀ j, j ∉ L → st j = st0 j
  pw : L.Pairwise (lex due0)
  nxt : ∀ x, x ∈ L → ∀ j, j < 16 → Rdy st due0 t j → lex due0 x j
  cn : r + cnt st 16 ≤ 16
def RI (w0 : World) (b : Nat) (t : Int) (st0 due0 : Nat → Int) (fs0 : Nat → Value) (r : Nat) (st due : Nat → Int) (fs : Nat → Value) (u : World) : Prop := ∃ L v, RIx w0 b t st0 due0 fs0 L v r st due fs u
theorem ri_zero {w0 : World} {b n : Nat} {t : Int} {st0 due0 : Nat → Int} {fs0 : Nat → Value} {X : Nat → Nat} (hB : CoB w0 b n st0 fs0 X) (hR : w0.heap[b + 35]? = some (.cells #[.slice none 0 0] 45 (0, 0))) : RI w0 b t st0 due0 fs0 0 st0 due0 fs0 w0 :=
  ⟨[], .slice none 0 0, Chg.refl _ _, rfl, hR, World.ownsRow_nil _ _ _ _, rfl, rfl, fun j hj => (by cases hj), fun _ _ => rfl, .nil, fun x hx => (by cases hx), by have := cnt_le st0 16; omega⟩
theorem co_rings {σ : S} {w0 : World} {b n : Nat} {t : Int} {st0 due0 : Nat → Int} {fs0 : Nat → Value} {X : Nat → Nat} (hL : Lone E σ) (hB : CoB w0 b n st0 fs0 X) : RingInv E σ b t (RI w0 b t st0 due0 fs0) where
  stable := by
    rintro r st due fs u u' ⟨L, v, h⟩ c
    refine ⟨L, v, h.ch.trans c (fun _ _ x => .inl x), h.len, (c.keep _ (Array.getElem?_eq_some_iff.1 h.obj).1 (fun x => by have := x.2; omega)).trans h.obj, own_chg h.row c (fun g hg x => ?_), h.due, h.fs, h.inn, h.out, h.pw, h.nxt, h.cn⟩
    have := (h.row.lt g hg).1
    have := hB.hb
    have := x.2
    omega
  bound := by
    rintro r st due fs u ⟨L, v, h⟩ i _
    by_cases hi : i ∈ L
    · rw [(h.inn i hi).1]; omega
    · rw [h.out i hi]
      rcases hB.s i with x | x | x <;> rw [x] <;> omega
  rings := by
    rintro r st due fs u ⟨L, v, h⟩ hr m hm u1 hc hC
    obtain ⟨rfl, rfl⟩ : due = due0 ∧ fs = fs0 := ⟨h.due, h.fs⟩
    have hmL : m ∉ L := fun x => by
      have := hm.2.1.1
      rw [(h.inn m x).1] at this
      exact absurd this (by decide)
    have hsm := h.out m hmL
    have h2 : st m = 2 := by
      have := hm.2.1.1
      rcases hB.s m with x | x | x
      · rw [hsm, x] at this; exact absurd this (by decide)
      · rw [hsm, x]
      · rw [hsm, x] at this; exact absurd this (by decide)
    have hmn : m < n := hB.s2 m (by rw [← hsm]; exact h2)
    have hch1 := h.ch.trans hc (fun _ _ x => .inl x)
    have hbl : b + 35 < u.heap.size := (Array.getElem?_eq_some_iff.1 h.obj).1
    have ho1 : u1.heap[b + 35]? = some (.cells #[v] 45 (0, 0)) := (hc.keep _ hbl (fun x => by have := x.2; omega)).trans h.obj
    have hrow1 : u1.ownsRow w0.heap.size 3 1 v r (L.map fun (j : Nat) => Value.int .i64 (j : Int)) := own_chg h.row hc (fun g hg x => by
      have := (h.row.lt g hg).1
      have := hB.hb
      have := x.2
      omega)
    have hx1 : u1.cell? ⟨X m, 0, none⟩ = some (.int .i64 (m : Int)) := hch1.cell_is (hB.x m hmn) (fun x => by
      have := hB.xo m hmn
      rcases x with x | x
      · have := x.2; simp only at this; omega
      · simp only at x; omega)
    have hcall := ring_call hL ho1 hx1 hrow1 (by omega) (by have := hch1.size; omega)
    refine ⟨32, _, fun x => x = b + 35 ∨ v.ownBlock = some x, hB.f m hmn, fun x hx => ?_, callR_mono hcall ?_⟩
    · rcases hx with rfl | hx
      · exact hbl
      · exact (h.row.lt x hx).2
    · rintro s y u2 ⟨rfl, hc2, v', ho2, hrow2⟩
      have hlt : ∀ x, InClk b x → ¬ (x = b + 35 ∨ v.ownBlock = some x) := fun x hx hy => by
        rcases hy with hy | hy
        · have := hx.2; omega
        · have := (h.row.lt x hy).1; have := hB.hb; have := hx.2; omega
      refine ⟨rfl, hc2, _, _, _, hC.kept hc2 hlt, up_same _ _ _, fun u3 hc3 => ?_⟩
      have hst : ∀ j, up (up st m (st m + 1)) m (st m + 2) j = up st m 4 j := fun j => by
        by_cases e : j = m
        · subst e; rw [up_same, up_same, h2]; rfl
        · rw [up_ne _ _ e, up_ne _ _ e, up_ne _ _ e]
      refine ⟨L ++ [m], v', ?_, by rw [List.length_append, h.len]; rfl, (hc3.keep _ (Array.getElem?_eq_some_iff.1 ho2).1 (fun x => by have := x.2; omega)).trans ho2, ?_, rfl, rfl, ?_, ?_, ?_, ?_, ?_⟩
      · refine (hch1.trans hc2 (fun x hx hy => ?_)).trans hc3 (fun _ _ x => .inl x)
        rcases hy with hy | hy
        · exact .inr hy
        · have := (h.row.lt x hy).1; omega
      · rw [List.map_append]
        exact own_chg hrow2 hc3 (fun g hg x => by
          have := (hrow2.lt g hg).1
          have := hB.hb
          have := x.2
          omega)
      · intro j hj
        rw [hst]
        rcases List.mem_append.1 hj with hj | hj
        · have := h.inn j hj
          rw [up_ne _ _ (fun e => hmL (by rw [e] at hj; exact hj))]; exact this
        · obtain rfl := List.mem_singleton.1 hj
          rw [up_same]; exact ⟨rfl, by rw [← hsm]; exact h2, hm.1, hm.2.1.2⟩
      · intro j hj
        rw [hst, up_ne _ _ (fun e => hj (List.mem_append.2 (.inr (List.mem_singleton.2 e))))]
        exact h.out j (fun x => hj (List.mem_append.2 (.inl x)))
      · refine List.pairwise_append.2 ⟨h.pw, List.pairwise_singleton _ _, fun x hx y hy => ?_⟩
        obtain rfl := List.mem_singleton.1 hy
        exact h.nxt x hx y hm.1 hm.2.1
      · intro x hx j hj hr
        have hjm : j ≠ m := fun e => by
          have := hr.1
          rw [hst, e, up_same] at this
          exact absurd this (by decide)
        have hr' : Rdy st due t j := ⟨by have := hr.1; rwa [hst, up_ne _ _ hjm] at this, hr.2⟩
        rcases List.mem_append.1 hx with hx | hx
        · exact h.nxt x hx j hj hr'
        · obtain rfl := List.mem_singleton.1 hx
          have h1 := hm.2.2.1 j hj hr'
          rcases Nat.lt_or_gt_of_ne hjm with y | y
          · exact .inl (hm.2.2.2 j y hr')
          · by_cases e : due x = due j
            · exact .inr ⟨e, y⟩
            · exact .inl (by omega)
      · rw [cnt_congr 16 (fun j _ => hst j)]
        have := cnt_up (v := 4) h2 (by decide) 16 hm.1
        have := h.cn
        omega
end Go.Proofs.Ythnfheohfnhcpaa.Y
