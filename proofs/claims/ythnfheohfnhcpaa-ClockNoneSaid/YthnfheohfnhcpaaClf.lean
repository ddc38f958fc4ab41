/- A timer that sets itself anew. -/
import Derived.Test.YthnfheohfnhcpaaChg
import Derived.Test.YthnfheohfnhcpaaClw
import Derived.Test.YthnfheohfnhcpaaDrw
import Derived.Test.YthnfheohfnhcpaaProg
import Derived.WalkKit
set_option linter.unusedSimpArgs false
set_option linter.unusedVariables false
set_option maxRecDepth 20000
set_option maxHeartbeats 4000000
namespace Go.Proofs.Ythnfheohfnhcpaa.Y
open Go Go.Conc Go.Proofs
variable {S : Type} {E : Eng Try.prog S}







def fF (b : Nat) : Value := .func (.func 128) #[] #[.pointer (some ⟨b + 37, 0, none⟩), .pointer (some ⟨b + 35, 0, none⟩), .pointer (some ⟨b + 38, 0, none⟩), .pointer (some ⟨b + 36, 0, none⟩)]
/-- The variables that it captures: the clock, how often Advance was busy, how often it rang, itself. -/
structure FVars (u : World) (b : Nat) (v k : Int) : Prop where
  size : b + 39 ≤ u.heap.size
  c : u.cell? ⟨b + 35, 0, none⟩ = some (.pointer (some ⟨b + 2, 0, none⟩))
  busy : u.cell? ⟨b + 36, 0, none⟩ = some (.int .i64 k)
  rung : u.cell? ⟨b + 37, 0, none⟩ = some (.int .i64 v)
  f : u.cell? ⟨b + 38, 0, none⟩ = some (fF b)
  zb : u.frozen? ⟨b + 36, 0, none⟩ = false
  zr : u.frozen? ⟨b + 37, 0, none⟩ = false
theorem FVars.kept {u u' : World} {b : Nat} {v k : Int} (h : FVars u b v k) {T : Nat → Prop} (c : Chg T u u') (h5 : ¬ T (b + 35)) (h6 : ¬ T (b + 36)) (h7 : ¬ T (b + 37)) (h8 : ¬ T (b + 38)) : FVars u' b v k :=
  ⟨Nat.le_trans h.size c.size, c.cell_is h.c h5, c.cell_is h.busy h6, c.cell_is h.rung h7, c.cell_is h.f h8, by rw [c.frozen (by have := h.size; simp only; omega) h6]; exact h.zb, by rw [c.frozen (by have := h.size; simp only; omega) h7]; exact h.zr⟩
theorem FVars.clk {u u' : World} {b : Nat} {v k : Int} (h : FVars u b v k) (c : Chg (InClk b) u u') : FVars u' b v k :=
  h.kept c (fun x => by have := x.2; omega) (fun x => by have := x.2; omega) (fun x => by have := x.2; omega) (fun x => by have := x.2; omega)
theorem FVars.setRung {u : World} {b : Nat} {v k : Int} (h : FVars u b v k) (v' : Int) : FVars (u.setCell ⟨b + 37, 0, none⟩ (.int .i64 v')) b v' k := by
  have o : ∀ x, x ≠ b + 37 → (u.setCell ⟨b + 37, 0, none⟩ (.int .i64 v')).cell? ⟨x, 0, none⟩ = u.cell? ⟨x, 0, none⟩ := fun x hx => World.cell?_setCell_other _ _ _ _ (fun e => hx (congrArg Addr.block e).symm)
  exact ⟨by rw [size_setCell]; exact h.size, by rw [o _ (by omega)]; exact h.c, by rw [o _ (by omega)]; exact h.busy, at_of h.rung, by rw [o _ (by omega)]; exact h.f, by rw [World.frozen?_setCell]; exact h.zb, by rw [World.frozen?_setCell]; exact h.zr⟩
theorem FVars.setBusy {u : World} {b : Nat} {v k : Int} (h : FVars u b v k) (k' : Int) : FVars (u.setCell ⟨b + 36, 0, none⟩ (.int .i64 k')) b v k' := by
  have o : ∀ x, x ≠ b + 36 → (u.setCell ⟨b + 36, 0, none⟩ (.int .i64 k')).cell? ⟨x, 0, none⟩ = u.cell? ⟨x, 0, none⟩ := fun x hx => World.cell?_setCell_other _ _ _ _ (fun e => hx (congrArg Addr.block e).symm)
  exact ⟨by rw [size_setCell]; exact h.size, by rw [o _ (by omega)]; exact h.c, at_of h.busy, by rw [o _ (by omega)]; exact h.rung, by rw [o _ (by omega)]; exact h.f, by rw [World.frozen?_setCell]; exact h.zb, by rw [World.frozen?_setCell]; exact h.zr⟩
def fOwn (b : Nat) : Nat → Prop := fun x => b ≤ x ∧ x < b + 39
theorem own_clk {b : Nat} {u u' : World} {T : Nat → Prop} (h : Chg (fOwn b) u u') {u'' : World} (k : Chg T u' u'') (hT : ∀ x, T x → fOwn b x) : Chg (fOwn b) u u'' := h.trans k (fun x _ hx => hT x hx)
theorem forever_f {σ : S} {u : World} {b q : Nat} {t v k : Int} {st due : Nat → Int} {fs : Nat → Value} (hL : Lone E σ) (hC : Clk u b t 1 st due fs) (hV : FVars u b v k) (hv0 : 0 ≤ v) (hv1 : v ≤ 900) (hk0 : 0 ≤ k) (hk1 : k ≤ 900)
    (hq : q < 16) (hq4 : (st q).tmod 4 = 0) (hq0 : 0 ≤ st q) (hq1 : st q ≤ 4611686018427387904) (hqb : ∀ j, j < q → (st j).tmod 4 ≠ 0) :
    CallR E 128 #[.pointer none, .pointer (some ⟨b + 37, 0, none⟩), .pointer (some ⟨b + 35, 0, none⟩), .pointer (some ⟨b + 38, 0, none⟩), .pointer (some ⟨b + 36, 0, none⟩)] σ u (fun s _ u2 => s = σ ∧ Chg (fOwn b) u u2 ∧ Clk u2 b t 1 (up st q (st q + 2)) (up due q 0) (up fs q (fF b)) ∧ FVars u2 b (v + 1) (k + 1)) := by
  have hs := hL.no
  have hr := hV.rung
  have hw1 := wrap64 (x := v + 1) (by omega) (by omega)
  have hw2 := wrap64 (x := k + 1) (by omega) (by omega)
  have hlt : v + 1 < 1000 := by omega
  refine callR_of Try.func128 (by kernel_rfl) rfl ?_; simp only [Try.ntmps128, List.size_toArray, List.length_cons, List.length_nil, Nat.reduceAdd, Nat.reduceSub, Array.replicate_succ, Array.replicate_zero, List.push_toArray, List.append_toArray, List.nil_append, List.cons_append]
  repeat (first | (first | refine codeY_seq ?_ | refine codeY_block ?_ | refine codeY_ret ?_ | refine codeY_skip ?_ | refine codeY_exit ?_ | refine codeY_label ?_ | refine thenY_n ?_ | refine thenY_e ?_ | refine thenY_r ?_ | refine blockY_n ?_ | refine blockY_e ?_ | refine blockY_r ?_ | refine blockY_o rfl ?_ | refine codeY_condT rfl ?_ | refine codeY_condF rfl ?_) | (refine codeY_region_k (fun K hK => ?_); simp only [List.size_toArray, List.length_cons, List.length_nil, Nat.reduceAdd, Nat.zero_add, List.range, List.range.loop]) | (refine opsY_nil ?_; refine hK _ _ _ _ ?_; clear hK K) | (first | (first | (refine opsY_move rfl rfl ?_; walk_nrm) | (refine opsY_assign rfl rfl ?_; walk_nrm)) | (refine opsY_unwanted rfl rfl ?_; walk_nrm) | (refine opsY_nw rfl rfl (nw_of (by rfl)) (fun Ky hKy => ?_); go_simp; refine hKy _ _ ⟨rfl, fun Kx => ?_⟩; clear Kx hKy Ky)))
  (refine opsY_store1 rfl rfl (by kernel_rfl) rfl rfl rfl rfl hr hV.zr (hs _) ?_; walk_nrm)
  have hC1 := hC.other (a := ⟨b + 37, 0, none⟩) (.int .i64 (v + 1)) (fun x => by have := x.2; simp at this)
  have hV1 := hV.setRung (v + 1)
  have hc1 : Chg (fOwn b) u (u.setCell ⟨b + 37, 0, none⟩ (.int .i64 (v + 1))) := (Chg.refl _ u).setCell _ (.inl ⟨by simp, by simp⟩)
  clear hr hV hC
  revert hC1 hV1 hc1
  generalize u.setCell ⟨b + 37, 0, none⟩ (.int .i64 (v + 1)) = u1
  intro hC1 hV1 hc1
  have hr := hV1.rung
  have hcc := hV1.c
  have hff : u1.cell? ⟨b + 38, 0, none⟩ = some (.func (.func 128) #[] #[.pointer (some ⟨b + 37, 0, none⟩), .pointer (some ⟨b + 35, 0, none⟩), .pointer (some ⟨b + 38, 0, none⟩), .pointer (some ⟨b + 36, 0, none⟩)]) := hV1.f
  repeat (first | (first | refine codeY_seq ?_ | refine codeY_block ?_ | refine codeY_ret ?_ | refine codeY_skip ?_ | refine codeY_exit ?_ | refine codeY_label ?_ | refine thenY_n ?_ | refine thenY_e ?_ | refine thenY_r ?_ | refine blockY_n ?_ | refine blockY_e ?_ | refine blockY_r ?_ | refine blockY_o rfl ?_ | refine codeY_condT rfl ?_ | refine codeY_condF rfl ?_) | (refine codeY_region_k (fun K hK => ?_); simp only [List.size_toArray, List.length_cons, List.length_nil, Nat.reduceAdd, Nat.zero_add, List.range, List.range.loop]) | (refine opsY_nil ?_; refine hK _ _ _ _ ?_; clear hK K) | (first | (first | (refine opsY_move rfl rfl ?_; walk_nrm) | (refine opsY_assign rfl rfl ?_; walk_nrm)) | (refine opsY_unwanted rfl rfl ?_; walk_nrm) | (refine opsY_nw rfl rfl (nw_of (by rfl)) (fun Ky hKy => ?_); go_simp; refine hKy _ _ ⟨rfl, fun Kx => ?_⟩; clear Kx hKy Ky)))
  (refine opsY_callR (set_is (i := q) (fn := .func 128) (f1 := #[]) (f2 := #[.pointer (some ⟨b + 37, 0, none⟩), .pointer (some ⟨b + 35, 0, none⟩), .pointer (some ⟨b + 38, 0, none⟩), .pointer (some ⟨b + 36, 0, none⟩)]) 0 hL hC1 (by omega) (by omega) hq hq4 hq0 hq1 hqb) rfl rfl rfl (by first | rfl | (simp [Act.eval]; done) | (simp [Act.eval]; rfl) | (simp [Act.eval]; exact ⟨rfl, rfl⟩)) ?_)
  rintro s x u2 ⟨rfl, rfl, hC2, hk⟩
  have hV2 := hV1.clk hk
  have hc2 := own_clk hc1 hk (fun x hx => ⟨hx.1, by have := hx.2; omega⟩)
  clear hr hcc hff hV1 hC1 hc1 hk
  have hcc := hV2.c
  walk_nrm
  repeat (first | (first | refine codeY_seq ?_ | refine codeY_block ?_ | refine codeY_ret ?_ | refine codeY_skip ?_ | refine codeY_exit ?_ | refine codeY_label ?_ | refine thenY_n ?_ | refine thenY_e ?_ | refine thenY_r ?_ | refine blockY_n ?_ | refine blockY_e ?_ | refine blockY_r ?_ | refine blockY_o rfl ?_ | refine codeY_condT rfl ?_ | refine codeY_condF rfl ?_) | (refine codeY_region_k (fun K hK => ?_); simp only [List.size_toArray, List.length_cons, List.length_nil, Nat.reduceAdd, Nat.zero_add, List.range, List.range.loop]) | (refine opsY_nil ?_; refine hK _ _ _ _ ?_; clear hK K) | (first | (first | (refine opsY_move rfl rfl ?_; walk_nrm) | (refine opsY_assign rfl rfl ?_; walk_nrm)) | (refine opsY_unwanted rfl rfl ?_; walk_nrm) | (refine opsY_nw rfl rfl (nw_of (by rfl)) (fun Ky hKy => ?_); go_simp; refine hKy _ _ ⟨rfl, fun Kx => ?_⟩; clear Kx hKy Ky)))
  (refine opsY_callTo (advance_busy (d := 1) hC2 (by omega) (by omega)) rfl rfl rfl (by first | rfl | (simp [Act.eval]; done) | (simp [Act.eval]; rfl) | (simp [Act.eval]; exact ⟨rfl, rfl⟩)) ?_; walk_nrm)
  have hb := hV2.busy
  repeat (first | (first | refine codeY_seq ?_ | refine codeY_block ?_ | refine codeY_ret ?_ | refine codeY_skip ?_ | refine codeY_exit ?_ | refine codeY_label ?_ | refine thenY_n ?_ | refine thenY_e ?_ | refine thenY_r ?_ | refine blockY_n ?_ | refine blockY_e ?_ | refine blockY_r ?_ | refine blockY_o rfl ?_ | refine codeY_condT rfl ?_ | refine codeY_condF rfl ?_) | (refine codeY_region_k (fun K hK => ?_); simp only [List.size_toArray, List.length_cons, List.length_nil, Nat.reduceAdd, Nat.zero_add, List.range, List.range.loop]) | (refine opsY_nil ?_; refine hK _ _ _ _ ?_; clear hK K) | (first | (first | (refine opsY_move rfl rfl ?_; walk_nrm) | (refine opsY_assign rfl rfl ?_; walk_nrm)) | (refine opsY_unwanted rfl rfl ?_; walk_nrm) | (refine opsY_nw rfl rfl (nw_of (by rfl)) (fun Ky hKy => ?_); go_simp; refine hKy _ _ ⟨rfl, fun Kx => ?_⟩; clear Kx hKy Ky)))
  (refine opsY_store1 rfl rfl (by kernel_rfl) rfl rfl rfl rfl hb hV2.zb (hs _) ?_; walk_nrm)
  have hC3 := hC2.other (a := ⟨b + 36, 0, none⟩) (.int .i64 (k + 1)) (fun x => by have := x.2; simp at this)
  have hV3 := hV2.setBusy (k + 1)
  have hc3 := hc2.setCell (a := ⟨b + 36, 0, none⟩) (.int .i64 (k + 1)) (.inl ⟨by simp, by simp⟩)
  repeat (first | (first | refine codeY_seq ?_ | refine codeY_block ?_ | refine codeY_ret ?_ | refine codeY_skip ?_ | refine codeY_exit ?_ | refine codeY_label ?_ | refine thenY_n ?_ | refine thenY_e ?_ | refine thenY_r ?_ | refine blockY_n ?_ | refine blockY_e ?_ | refine blockY_r ?_ | refine blockY_o rfl ?_ | refine codeY_condT rfl ?_ | refine codeY_condF rfl ?_) | (refine codeY_region_k (fun K hK => ?_); simp only [List.size_toArray, List.length_cons, List.length_nil, Nat.reduceAdd, Nat.zero_add, List.range, List.range.loop]) | (refine opsY_nil ?_; refine hK _ _ _ _ ?_; clear hK K) | (first | (first | (refine opsY_move rfl rfl ?_; walk_nrm) | (refine opsY_assign rfl rfl ?_; walk_nrm)) | (refine opsY_unwanted rfl rfl ?_; walk_nrm) | (refine opsY_nw rfl rfl (nw_of (by rfl)) (fun Ky hKy => ?_); go_simp; refine hKy _ _ ⟨rfl, fun Kx => ?_⟩; clear Kx hKy Ky)))
  (first | refine bodyY_ret rfl (results_1 Try.results128) ?_ | refine bodyY_ret rfl (results_0 Try.results128) ?_ | refine bodyY_ret rfl (results_2 Try.results128) ?_ | refine bodyY_ret rfl (results_3 Try.results128) ?_ | refine bodyY_end rfl (results_1 Try.results128) ?_ | refine bodyY_end rfl (results_0 Try.results128) ?_ | refine bodyY_end rfl (results_2 Try.results128) ?_ | refine bodyY_end rfl (results_3 Try.results128) ?_)
  exact ⟨rfl, hc3, hC3, hV3⟩

theorem tmod4 {x : Int} (h : 0 ≤ x) : x.tmod 4 = x % 4 := Int.tmod_eq_emod_of_nonneg h
/-- The slots when it has rung so often. -/
structure FSt (b R : Nat) (st due : Nat → Int) (fs : Nat → Value) : Prop where
  rest : ∀ j, 2 ≤ j → j < 16 → st j = 0
  bnd : ∀ j, j < 16 → 0 ≤ st j ∧ st j ≤ 4 * R + 4
  p : st (R % 2) % 4 = 2
  q : st ((R + 1) % 2) % 4 = 0
  due : due (R % 2) = 0
  f : fs (R % 2) = fF b
theorem FSt.nxt {b R : Nat} {st due : Nat → Int} {fs : Nat → Value} (h : FSt b R st due fs) {t : Int} {m : Nat} (hm : m < 16) (hr : Rdy st due t m) : m = R % 2 := by
  have h1 := hr.1
  rw [tmod4 (h.bnd m hm).1] at h1
  by_cases e : 2 ≤ m
  · rw [h.rest m e hm] at h1; simp at h1
  · by_cases e2 : m = (R + 1) % 2
    · subst e2; have := h.q; omega
    · omega
theorem FSt.next {b R : Nat} {st due : Nat → Int} {fs : Nat → Value} (h : FSt b R st due fs) :
    FSt b (R + 1) (up (up (up st (R % 2) (st (R % 2) + 1)) ((R + 1) % 2) (st ((R + 1) % 2) + 2)) (R % 2) (st (R % 2) + 2)) (up due ((R + 1) % 2) 0) (up fs ((R + 1) % 2) (fF b)) := by
  have hne : (R + 1) % 2 ≠ R % 2 := by omega
  have hpq : (R + 1 + 1) % 2 = R % 2 := by omega
  have hp := h.p
  have hq := h.q
  refine ⟨fun j h2 hj => ?_, fun j hj => ?_, ?_, ?_, up_same _ _ _, up_same _ _ _⟩
  · rw [up_ne _ _ (by omega), up_ne _ _ (by omega), up_ne _ _ (by omega)]; exact h.rest j h2 hj
  · have hb := h.bnd j hj
    by_cases e : j = R % 2
    · subst e; rw [up_same]; omega
    · rw [up_ne _ _ e]
      by_cases e2 : j = (R + 1) % 2
      · subst e2; rw [up_same]; omega
      · rw [up_ne _ _ e2, up_ne _ _ e]; omega
  · rw [up_ne _ _ hne, up_same]; omega
  · rw [hpq, up_same]; omega
def fInv (w : World) (b R0 : Nat) (r : Nat) (st due : Nat → Int) (fs : Nat → Value) (u : World) : Prop :=
  r ≤ 64 ∧ Chg (fun _ => False) w u ∧ FVars u b ((R0 + r : Nat) : Int) ((R0 + r : Nat) : Int) ∧ FSt b (R0 + r) st due fs
theorem fRing' {σ : S} {w : World} {b R0 : Nat} {t : Int} (hL : Lone E σ) (hb : w.heap.size ≤ b) (hR : R0 ≤ 64) (ht : 0 ≤ t) : RingInv E σ b t (fInv w b R0) where
  stable := fun {r st due fs u u'} ⟨h0, h1, h2, h3⟩ k => ⟨h0, chg_in h1 hb k, h2.clk k, h3⟩
  bound := fun {r st due fs u} h i hi => by
    have h1 := h.2.2.2.bnd i hi
    have h2 := h.1
    omega
  rings := fun {r st due fs u} hI hr m hm u1 hk1 hC1 => by
    have hsz0 := hI.2.2.1.size
    obtain ⟨h0, h1, h2, h3⟩ : fInv w b R0 r st due fs u1 := ⟨hI.1, chg_in hI.2.1 hb hk1, hI.2.2.1.clk hk1, hI.2.2.2⟩
    have hmR := h3.nxt hm.1 hm.2.1
    subst hmR
    have hp := h3.p
    have hq := h3.q
    have hpb := h3.bnd ((R0 + r) % 2) (by omega)
    have hqb := h3.bnd ((R0 + r + 1) % 2) (by omega)
    have hne : (R0 + r + 1) % 2 ≠ (R0 + r) % 2 := by omega
    refine ⟨128, #[.pointer (some ⟨b + 37, 0, none⟩), .pointer (some ⟨b + 35, 0, none⟩), .pointer (some ⟨b + 38, 0, none⟩), .pointer (some ⟨b + 36, 0, none⟩)], fOwn b, h3.f, fun y hy => by have := hy.2; omega, ?_⟩
    refine callR_mono (forever_f (q := (R0 + r + 1) % 2) hL hC1 h2 (by omega) (by omega) (by omega) (by omega) (by omega) (by rw [up_ne _ _ hne, tmod4 hqb.1]; exact hq) (by rw [up_ne _ _ hne]; omega) (by rw [up_ne _ _ hne]; omega) (fun j hj => ?_)) ?_
    · have : j = (R0 + r) % 2 := by omega
      subst this
      rw [up_same, tmod4 (by omega)]; omega
    · rintro s v u2 ⟨rfl, hk, hC2, hV2⟩
      refine ⟨rfl, hk, _, _, _, hC2, by rw [up_ne _ _ (Ne.symm hne), up_same], fun u3 k => ⟨by omega, ?_, ?_, ?_⟩⟩
      · exact chg_in (h1.trans hk (fun x hx hi => by have := hi.1; omega)) hb k
      · exact hV2.clk k
      · have e : up st ((R0 + r) % 2) (st ((R0 + r) % 2) + 1) ((R0 + r + 1) % 2) = st ((R0 + r + 1) % 2) := up_ne _ _ hne
        rw [e]
        exact h3.next
theorem fst_zero (b : Nat) : FSt b 0 (up (fun _ => 0) 0 2) (up (fun _ => 0) 0 0) (up (fun _ => .nilFunc) 0 (fF b)) :=
  ⟨fun j h2 _ => up_ne _ _ (by omega), fun j _ => (by simp only [up]; split <;> omega), by decide, by decide, by decide, up_same _ _ _⟩
theorem more_var {w u : World} {n : Nat} (h : Chg (fun _ => False) w u) (hz : u.heap.size = n) (v : Value) (t : TypeId) :
    Chg (fun _ => False) w (u.alloc (.cells #[v] t)) ∧ (u.alloc (.cells #[v] t)).heap.size = n + 1 ∧ (u.alloc (.cells #[v] t)).cell? ⟨n, 0, none⟩ = some v ∧ (u.alloc (.cells #[v] t)).frozen? ⟨n, 0, none⟩ = false ∧ Chg (fun _ => False) u (u.alloc (.cells #[v] t)) := by
  obtain ⟨x0, xz⟩ := one_alloc u v t
  rw [hz] at x0 xz
  exact ⟨h.alloc _, by rw [World.size_alloc, hz], x0, xz 0, (Chg.refl _ u).alloc _⟩
theorem forever_is {σ : S} {w : World} (hL : Lone E σ) : CallR E 30 #[] σ w (fun σ' v u => σ' = σ ∧ v = .bool true ∧ Chg (fun _ => False) w u) := by
  have hs := hL.no
  refine callR_of Try.func30 (by kernel_rfl) rfl ?_; simp only [Try.ntmps30, List.size_toArray, List.length_cons, List.length_nil, Nat.reduceAdd, Nat.reduceSub, Array.replicate_succ, Array.replicate_zero, List.push_toArray, List.append_toArray, List.nil_append, List.cons_append]
  repeat (first | (first | refine codeY_seq ?_ | refine codeY_block ?_ | refine codeY_ret ?_ | refine codeY_skip ?_ | refine codeY_exit ?_ | refine codeY_label ?_ | refine thenY_n ?_ | refine thenY_e ?_ | refine thenY_r ?_ | refine blockY_n ?_ | refine blockY_e ?_ | refine blockY_r ?_ | refine blockY_o rfl ?_ | refine codeY_condT rfl ?_ | refine codeY_condF rfl ?_) | (refine codeY_region_k (fun K hK => ?_); simp only [List.size_toArray, List.length_cons, List.length_nil, Nat.reduceAdd, Nat.zero_add, List.range, List.range.loop]) | (refine opsY_nil ?_; refine hK _ _ _ _ ?_; clear hK K) | (first | (first | (refine opsY_move rfl rfl ?_; walk_nrm) | (refine opsY_assign rfl rfl ?_; walk_nrm)) | (refine opsY_unwanted rfl rfl ?_; walk_nrm) | (refine opsY_nw rfl rfl (nw_of (by rfl)) (fun Ky hKy => ?_); go_simp; refine hKy _ _ ⟨rfl, fun Kx => ?_⟩; clear Kx hKy Ky)))
  (refine opsY_callR (cnew hL) rfl rfl rfl (by first | rfl | (simp [Act.eval]; done) | (simp [Act.eval]; rfl) | (simp [Act.eval]; exact ⟨rfl, rfl⟩)) ?_)
  rintro s v w1 ⟨rfl, rfl, hC1, hc1, hz1⟩
  walk_nrm
  repeat (first | (first | refine codeY_seq ?_ | refine codeY_block ?_ | refine codeY_ret ?_ | refine codeY_skip ?_ | refine codeY_exit ?_ | refine codeY_label ?_ | refine thenY_n ?_ | refine thenY_e ?_ | refine thenY_r ?_ | refine blockY_n ?_ | refine blockY_e ?_ | refine blockY_r ?_ | refine blockY_o rfl ?_ | refine codeY_condT rfl ?_ | refine codeY_condF rfl ?_) | (refine codeY_region_k (fun K hK => ?_); simp only [List.size_toArray, List.length_cons, List.length_nil, Nat.reduceAdd, Nat.zero_add, List.range, List.range.loop]) | (refine opsY_nil ?_; refine hK _ _ _ _ ?_; clear hK K) | (first | (first | (refine opsY_move rfl rfl ?_; walk_nrm) | (refine opsY_assign rfl rfl ?_; walk_nrm)) | (refine opsY_unwanted rfl rfl ?_; walk_nrm) | (refine opsY_nw rfl rfl (nw_of (by rfl)) (fun Ky hKy => ?_); go_simp; refine hKy _ _ ⟨rfl, fun Kx => ?_⟩; clear Kx hKy Ky)))
  obtain ⟨b, hb⟩ : ∃ b, w.heap.size = b := ⟨_, rfl⟩
  have hbl : w.heap.size ≤ b := by omega
  rw [hb] at hC1 hz1 ⊢
  obtain ⟨x0, xz⟩ := one_alloc w1 (.pointer none) 22
  rw [hz1] at x0 xz
  (refine opsY_store1 rfl rfl (by kernel_rfl) rfl rfl rfl rfl x0 (xz 0) (hs _) ?_; walk_nrm)
  have ex : (w1.alloc (.cells #[.pointer none] 22)).setCell ⟨b + 35, 0, none⟩ (.pointer (some ⟨b + 2, 0, none⟩)) = w1.alloc (.cells #[.pointer (some ⟨b + 2, 0, none⟩)] 22) := by
    rw [← hz1]; exact alloc_set _ _ _ _ _ _
  rw [ex]
  clear ex x0 xz
  obtain ⟨hc2, hz2, y1, _, hk⟩ := more_var hc1 hz1 (.pointer (some ⟨b + 2, 0, none⟩)) 22
  have hz2 : _ = b + 36 := hz2
  have hC2 := hC1.kept hk (fun _ _ x => x)
  clear hk hc1 hC1 hz1
  generalize w1.alloc (.cells #[.pointer (some ⟨b + 2, 0, none⟩)] 22) = w2 at hc2 hz2 y1 hC2 ⊢
  repeat (first | (first | refine codeY_seq ?_ | refine codeY_block ?_ | refine codeY_ret ?_ | refine codeY_skip ?_ | refine codeY_exit ?_ | refine codeY_label ?_ | refine thenY_n ?_ | refine thenY_e ?_ | refine thenY_r ?_ | refine blockY_n ?_ | refine blockY_e ?_ | refine blockY_r ?_ | refine blockY_o rfl ?_ | refine codeY_condT rfl ?_ | refine codeY_condF rfl ?_) | (refine codeY_region_k (fun K hK => ?_); simp only [List.size_toArray, List.length_cons, List.length_nil, Nat.reduceAdd, Nat.zero_add, List.range, List.range.loop]) | (refine opsY_nil ?_; refine hK _ _ _ _ ?_; clear hK K) | (first | (first | (refine opsY_move rfl rfl ?_; walk_nrm) | (refine opsY_assign rfl rfl ?_; walk_nrm)) | (refine opsY_unwanted rfl rfl ?_; walk_nrm) | (refine opsY_nw rfl rfl (nw_of (by rfl)) (fun Ky hKy => ?_); go_simp; refine hKy _ _ ⟨rfl, fun Kx => ?_⟩; clear Kx hKy Ky)))
  obtain ⟨hc3, hz3, y2, yz2, hk⟩ := more_var hc2 hz2 (.int .i64 0) 3
  have hz3 : _ = b + 37 := hz3
  have hC3 := hC2.kept hk (fun _ _ x => x)
  have y1 := hk.cell_is y1 (fun x => x)
  (refine opsY_store1 rfl rfl (by kernel_rfl) rfl rfl rfl rfl y2 yz2 (hs _) ?_; walk_nrm)
  rw [set_self y2]
  clear hk hc2 hC2 hz2
  generalize w2.alloc (.cells #[.int .i64 0] 3) = w3 at hc3 hz3 y1 y2 yz2 hC3 ⊢
  repeat (first | (first | refine codeY_seq ?_ | refine codeY_block ?_ | refine codeY_ret ?_ | refine codeY_skip ?_ | refine codeY_exit ?_ | refine codeY_label ?_ | refine thenY_n ?_ | refine thenY_e ?_ | refine thenY_r ?_ | refine blockY_n ?_ | refine blockY_e ?_ | refine blockY_r ?_ | refine blockY_o rfl ?_ | refine codeY_condT rfl ?_ | refine codeY_condF rfl ?_) | (refine codeY_region_k (fun K hK => ?_); simp only [List.size_toArray, List.length_cons, List.length_nil, Nat.reduceAdd, Nat.zero_add, List.range, List.range.loop]) | (refine opsY_nil ?_; refine hK _ _ _ _ ?_; clear hK K) | (first | (first | (refine opsY_move rfl rfl ?_; walk_nrm) | (refine opsY_assign rfl rfl ?_; walk_nrm)) | (refine opsY_unwanted rfl rfl ?_; walk_nrm) | (refine opsY_nw rfl rfl (nw_of (by rfl)) (fun Ky hKy => ?_); go_simp; refine hKy _ _ ⟨rfl, fun Kx => ?_⟩; clear Kx hKy Ky)))
  obtain ⟨hc4, hz4, y3, yz3, hk⟩ := more_var hc3 hz3 (.int .i64 0) 3
  have hz4 : _ = b + 38 := hz4
  have hC4 := hC3.kept hk (fun _ _ x => x)
  have y1 := hk.cell_is y1 (fun x => x)
  have y2 := hk.cell_is y2 (fun x => x)
  have yz2 := (hk.frozen (a := ⟨b + 36, 0, none⟩) (by simp only; omega) (fun x => x)).trans yz2
  (refine opsY_store1 rfl rfl (by kernel_rfl) rfl rfl rfl rfl y3 yz3 (hs _) ?_; walk_nrm)
  rw [set_self y3]
  clear hk hc3 hC3 hz3
  generalize w3.alloc (.cells #[.int .i64 0] 3) = w4 at hc4 hz4 y1 y2 yz2 y3 yz3 hC4 ⊢
  repeat (first | (first | refine codeY_seq ?_ | refine codeY_block ?_ | refine codeY_ret ?_ | refine codeY_skip ?_ | refine codeY_exit ?_ | refine codeY_label ?_ | refine thenY_n ?_ | refine thenY_e ?_ | refine thenY_r ?_ | refine blockY_n ?_ | refine blockY_e ?_ | refine blockY_r ?_ | refine blockY_o rfl ?_ | refine codeY_condT rfl ?_ | refine codeY_condF rfl ?_) | (refine codeY_region_k (fun K hK => ?_); simp only [List.size_toArray, List.length_cons, List.length_nil, Nat.reduceAdd, Nat.zero_add, List.range, List.range.loop]) | (refine opsY_nil ?_; refine hK _ _ _ _ ?_; clear hK K) | (first | (first | (refine opsY_move rfl rfl ?_; walk_nrm) | (refine opsY_assign rfl rfl ?_; walk_nrm)) | (refine opsY_unwanted rfl rfl ?_; walk_nrm) | (refine opsY_nw rfl rfl (nw_of (by rfl)) (fun Ky hKy => ?_); go_simp; refine hKy _ _ ⟨rfl, fun Kx => ?_⟩; clear Kx hKy Ky)))
  obtain ⟨hc5, hz5, y4, yz4, hk⟩ := more_var hc4 hz4 .nilFunc 24
  (refine opsY_store1 rfl rfl (by kernel_rfl) rfl rfl rfl rfl y4 yz4 (hs _) ?_; walk_nrm)
  have ex : (w4.alloc (.cells #[.nilFunc] 24)).setCell ⟨b + 38, 0, none⟩ (fF b) = w4.alloc (.cells #[fF b] 24) := by
    rw [← hz4]; exact alloc_set _ _ _ _ _ _
  unfold fF at ex
  rw [ex]
  clear ex hc5 hz5 y4 yz4 hk
  obtain ⟨hc5, hz5, y4, yz4, hk⟩ := more_var hc4 hz4 (fF b) 24
  have hz5 : _ = b + 39 := hz5
  have hC5 := hC4.kept hk (fun _ _ x => x)
  have y1 := hk.cell_is y1 (fun x => x)
  have y2 := hk.cell_is y2 (fun x => x)
  have yz2 := (hk.frozen (a := ⟨b + 36, 0, none⟩) (by simp only; omega) (fun x => x)).trans yz2
  have y3 := hk.cell_is y3 (fun x => x)
  have yz3 := (hk.frozen (a := ⟨b + 37, 0, none⟩) (by simp only; omega) (fun x => x)).trans yz3
  have hV5 : FVars (w4.alloc (.cells #[fF b] 24)) b 0 0 := ⟨by rw [hz5]; omega, y1, y2, y3, y4, yz2, yz3⟩
  clear hk hc4 hC4 hz4 y1 y2 yz2 y3 yz3 y4 yz4
  unfold fF at hc5 hz5 hV5 hC5
  generalize w4.alloc _ = w5 at hc5 hz5 hV5 hC5 ⊢
  have hcc := hV5.c
  have hff : w5.cell? ⟨b + 38, 0, none⟩ = some (.func (.func 128) #[] #[.pointer (some ⟨b + 37, 0, none⟩), .pointer (some ⟨b + 35, 0, none⟩), .pointer (some ⟨b + 38, 0, none⟩), .pointer (some ⟨b + 36, 0, none⟩)]) := hV5.f
  repeat (first | (first | refine codeY_seq ?_ | refine codeY_block ?_ | refine codeY_ret ?_ | refine codeY_skip ?_ | refine codeY_exit ?_ | refine codeY_label ?_ | refine thenY_n ?_ | refine thenY_e ?_ | refine thenY_r ?_ | refine blockY_n ?_ | refine blockY_e ?_ | refine blockY_r ?_ | refine blockY_o rfl ?_ | refine codeY_condT rfl ?_ | refine codeY_condF rfl ?_) | (refine codeY_region_k (fun K hK => ?_); simp only [List.size_toArray, List.length_cons, List.length_nil, Nat.reduceAdd, Nat.zero_add, List.range, List.range.loop]) | (refine opsY_nil ?_; refine hK _ _ _ _ ?_; clear hK K) | (first | (first | (refine opsY_move rfl rfl ?_; walk_nrm) | (refine opsY_assign rfl rfl ?_; walk_nrm)) | (refine opsY_unwanted rfl rfl ?_; walk_nrm) | (refine opsY_nw rfl rfl (nw_of (by rfl)) (fun Ky hKy => ?_); go_simp; refine hKy _ _ ⟨rfl, fun Kx => ?_⟩; clear Kx hKy Ky)))
  (refine opsY_callR (set_is (i := 0) (fn := .func 128) (f1 := #[]) (f2 := #[.pointer (some ⟨b + 37, 0, none⟩), .pointer (some ⟨b + 35, 0, none⟩), .pointer (some ⟨b + 38, 0, none⟩), .pointer (some ⟨b + 36, 0, none⟩)]) 0 hL hC5 (by omega) (by omega) (by omega) (by decide) (by decide) (by decide) (fun j hj => by omega)) rfl rfl rfl (by first | rfl | (simp [Act.eval]; done) | (simp [Act.eval]; rfl) | (simp [Act.eval]; exact ⟨rfl, rfl⟩)) ?_)
  rintro s x w6 ⟨rfl, rfl, hC6, hk⟩
  have hV6 := hV5.clk hk
  have hc6 := chg_in hc5 hbl hk
  clear hff hcc hV5 hC5 hc5 hk hz5
  have hC6 : Clk w6 b 0 0 (up (fun _ => 0) 0 2) (up (fun _ => 0) 0 0) (up (fun _ => .nilFunc) 0 (fF b)) := hC6
  have hI6 : fInv w b 0 0 (up (fun _ => 0) 0 2) (up (fun _ => 0) 0 0) (up (fun _ => .nilFunc) 0 (fF b)) w6 := ⟨by omega, hc6, hV6, fst_zero b⟩
  have hcc := hV6.c
  have e0 : (0 + min 0 (4611686018427387904 - 0) : Int) = 0 := by decide
  have hR0 : RingInv E s b (0 + min 0 (4611686018427387904 - 0)) (fInv w b 0) := by
    rw [e0]; exact fRing' hL hbl (by omega) (by omega)
  walk_nrm
  repeat (first | (first | refine codeY_seq ?_ | refine codeY_block ?_ | refine codeY_ret ?_ | refine codeY_skip ?_ | refine codeY_exit ?_ | refine codeY_label ?_ | refine thenY_n ?_ | refine thenY_e ?_ | refine thenY_r ?_ | refine blockY_n ?_ | refine blockY_e ?_ | refine blockY_r ?_ | refine blockY_o rfl ?_ | refine codeY_condT rfl ?_ | refine codeY_condF rfl ?_) | (refine codeY_region_k (fun K hK => ?_); simp only [List.size_toArray, List.length_cons, List.length_nil, Nat.reduceAdd, Nat.zero_add, List.range, List.range.loop]) | (refine opsY_nil ?_; refine hK _ _ _ _ ?_; clear hK K) | (first | (first | (refine opsY_move rfl rfl ?_; walk_nrm) | (refine opsY_assign rfl rfl ?_; walk_nrm)) | (refine opsY_unwanted rfl rfl ?_; walk_nrm) | (refine opsY_nw rfl rfl (nw_of (by rfl)) (fun Ky hKy => ?_); go_simp; refine hKy _ _ ⟨rfl, fun Kx => ?_⟩; clear Kx hKy Ky)))
  (refine opsY_callR (advance_is (d := 0) hL hC6 (by omega) (by omega) (by omega) hR0 hI6) rfl rfl rfl (by first | rfl | (simp [Act.eval]; done) | (simp [Act.eval]; rfl) | (simp [Act.eval]; exact ⟨rfl, rfl⟩)) ?_)
  rintro s x w7 ⟨rfl, r, st, due, fs, hr, rfl, hC7, hI7, hrdy⟩
  rw [e0] at hC7 hrdy
  have hr7 : r = 64 := by
    rcases hrdy with h | h
    · exact h
    · obtain ⟨_, _, _, hS⟩ := hI7
      exact absurd (show Rdy st due 0 ((0 + r) % 2) from ⟨by rw [tmod4 (hS.bnd _ (by omega)).1]; exact hS.p, by rw [hS.due]; omega⟩) (h _ (by omega))
  subst hr7
  obtain ⟨_, hc7, hV7, hS7⟩ := hI7
  clear hR0 hI6 hrdy hC6 hV6 hc6 hcc e0
  have hI7 : fInv w b 64 0 st due fs w7 := ⟨by omega, hc7, hV7, hS7⟩
  have hcc := hV7.c
  have e3 : (0 + min 3 (4611686018427387904 - 0) : Int) = 3 := by decide
  have hR3 : RingInv E s b (0 + min 3 (4611686018427387904 - 0)) (fInv w b 64) := by
    rw [e3]; exact fRing' hL hbl (by omega) (by omega)
  walk_nrm
  repeat (first | (first | refine codeY_seq ?_ | refine codeY_block ?_ | refine codeY_ret ?_ | refine codeY_skip ?_ | refine codeY_exit ?_ | refine codeY_label ?_ | refine thenY_n ?_ | refine thenY_e ?_ | refine thenY_r ?_ | refine blockY_n ?_ | refine blockY_e ?_ | refine blockY_r ?_ | refine blockY_o rfl ?_ | refine codeY_condT rfl ?_ | refine codeY_condF rfl ?_) | (refine codeY_region_k (fun K hK => ?_); simp only [List.size_toArray, List.length_cons, List.length_nil, Nat.reduceAdd, Nat.zero_add, List.range, List.range.loop]) | (refine opsY_nil ?_; refine hK _ _ _ _ ?_; clear hK K) | (first | (first | (refine opsY_move rfl rfl ?_; walk_nrm) | (refine opsY_assign rfl rfl ?_; walk_nrm)) | (refine opsY_unwanted rfl rfl ?_; walk_nrm) | (refine opsY_nw rfl rfl (nw_of (by rfl)) (fun Ky hKy => ?_); go_simp; refine hKy _ _ ⟨rfl, fun Kx => ?_⟩; clear Kx hKy Ky)))
  (refine opsY_callR (advance_is (d := 3) hL hC7 (by omega) (by omega) (by omega) hR3 hI7) rfl rfl rfl (by first | rfl | (simp [Act.eval]; done) | (simp [Act.eval]; rfl) | (simp [Act.eval]; exact ⟨rfl, rfl⟩)) ?_)
  rintro s x w8 ⟨rfl, r, st, due, fs, hr, rfl, hC8, hI8, hrdy⟩
  rw [e3] at hC8 hrdy
  have hr8 : r = 64 := by
    rcases hrdy with h | h
    · exact h
    · obtain ⟨_, _, _, hS⟩ := hI8
      exact absurd (show Rdy st due 3 ((64 + r) % 2) from ⟨by rw [tmod4 (hS.bnd _ (by omega)).1]; exact hS.p, by rw [hS.due]; omega⟩) (h _ (by omega))
  subst hr8
  obtain ⟨_, hc8, hV8, hS8⟩ := hI8
  clear hR3 hI7 hrdy hC7 hV7 hc7 hcc e3 hS7
  have hcc := hV8.c
  have hrr : w8.cell? ⟨b + 37, 0, none⟩ = some (.int .i64 128) := hV8.rung
  have hbb : w8.cell? ⟨b + 36, 0, none⟩ = some (.int .i64 128) := hV8.busy
  walk_nrm
  repeat (first | (first | refine codeY_seq ?_ | refine codeY_block ?_ | refine codeY_ret ?_ | refine codeY_skip ?_ | refine codeY_exit ?_ | refine codeY_label ?_ | refine thenY_n ?_ | refine thenY_e ?_ | refine thenY_r ?_ | refine blockY_n ?_ | refine blockY_e ?_ | refine blockY_r ?_ | refine blockY_o rfl ?_ | refine codeY_condT rfl ?_ | refine codeY_condF rfl ?_) | (refine codeY_region_k (fun K hK => ?_); simp only [List.size_toArray, List.length_cons, List.length_nil, Nat.reduceAdd, Nat.zero_add, List.range, List.range.loop]) | (refine opsY_nil ?_; refine hK _ _ _ _ ?_; clear hK K) | (first | (first | (refine opsY_move rfl rfl ?_; walk_nrm) | (refine opsY_assign rfl rfl ?_; walk_nrm)) | (refine opsY_unwanted rfl rfl ?_; walk_nrm) | (refine opsY_nw rfl rfl (nw_of (by rfl)) (fun Ky hKy => ?_); go_simp; refine hKy _ _ ⟨rfl, fun Kx => ?_⟩; clear Kx hKy Ky)))
  (refine opsY_callTo (cnow_is hC8.cnow hC8.now) rfl rfl rfl (by first | rfl | (simp [Act.eval]; done) | (simp [Act.eval]; rfl) | (simp [Act.eval]; exact ⟨rfl, rfl⟩)) ?_; walk_nrm)
  repeat (first | (first | refine codeY_seq ?_ | refine codeY_block ?_ | refine codeY_ret ?_ | refine codeY_skip ?_ | refine codeY_exit ?_ | refine codeY_label ?_ | refine thenY_n ?_ | refine thenY_e ?_ | refine thenY_r ?_ | refine blockY_n ?_ | refine blockY_e ?_ | refine blockY_r ?_ | refine blockY_o rfl ?_ | refine codeY_condT rfl ?_ | refine codeY_condF rfl ?_) | (refine codeY_region_k (fun K hK => ?_); simp only [List.size_toArray, List.length_cons, List.length_nil, Nat.reduceAdd, Nat.zero_add, List.range, List.range.loop]) | (refine opsY_nil ?_; refine hK _ _ _ _ ?_; clear hK K) | (first | (first | (refine opsY_move rfl rfl ?_; walk_nrm) | (refine opsY_assign rfl rfl ?_; walk_nrm)) | (refine opsY_unwanted rfl rfl ?_; walk_nrm) | (refine opsY_nw rfl rfl (nw_of (by rfl)) (fun Ky hKy => ?_); go_simp; refine hKy _ _ ⟨rfl, fun Kx => ?_⟩; clear Kx hKy Ky)))
  (first | refine bodyY_ret rfl (results_1 Try.results30) ?_ | refine bodyY_ret rfl (results_0 Try.results30) ?_ | refine bodyY_ret rfl (results_2 Try.results30) ?_ | refine bodyY_ret rfl (results_3 Try.results30) ?_ | refine bodyY_end rfl (results_1 Try.results30) ?_ | refine bodyY_end rfl (results_0 Try.results30) ?_ | refine bodyY_end rfl (results_2 Try.results30) ?_ | refine bodyY_end rfl (results_3 Try.results30) ?_)
  exact ⟨rfl, rfl, hc8⟩
end Go.Proofs.Ythnfheohfnhcpaa.Y
