/- A timer rings, and another one is stopped. -/
import Derived.Test.YthnfheohfnhcpaaChg
import Derived.Test.YthnfheohfnhcpaaClt
import Derived.Test.YthnfheohfnhcpaaClo
import Derived.Test.YthnfheohfnhcpaaCla
import Derived.Test.YthnfheohfnhcpaaDrw
import Derived.Test.YthnfheohfnhcpaaProg
import Derived.WalkKit
set_option linter.unusedSimpArgs false
set_option linter.unusedVariables false
set_option maxRecDepth 20000
set_option maxHeartbeats 4000000
namespace Go.Proofs.Ythnfheohfnhcpaa.Y
open Go Go.Conc Go.Proofs
variable {S : Type} {E : Eng Try.prog S}






theorem works_f {σ : S} {u : World} {x : Nat} {v : Int} (hL : Lone E σ) (h : u.cell? ⟨x, 0, none⟩ = some (.int .i64 v)) (hz : u.frozen? ⟨x, 0, none⟩ = false) (hv0 : 0 ≤ v) (hv1 : v ≤ 1000000) : CallTo E 129 #[.pointer none, .pointer (some ⟨x, 0, none⟩)] σ u σ (.tuple #[]) (u.setCell ⟨x, 0, none⟩ (.int .i64 (v + 1))) := by
  have hw := wrap64 (x := v + 1) (by omega) (by omega)
  refine callTo_of Try.func129 (by kernel_rfl) rfl ?_; simp only [Try.ntmps129, List.size_toArray, List.length_cons, List.length_nil, Nat.reduceAdd, Nat.reduceSub, Array.replicate_succ, Array.replicate_zero, List.push_toArray, List.append_toArray, List.nil_append, List.cons_append]
  repeat (first | (first | refine codeY_seq ?_ | refine codeY_block ?_ | refine codeY_ret ?_ | refine codeY_skip ?_ | refine codeY_exit ?_ | refine codeY_label ?_ | refine thenY_n ?_ | refine thenY_e ?_ | refine thenY_r ?_ | refine blockY_n ?_ | refine blockY_e ?_ | refine blockY_r ?_ | refine blockY_o rfl ?_ | refine codeY_condT rfl ?_ | refine codeY_condF rfl ?_) | (refine codeY_region_k (fun K hK => ?_); simp only [List.size_toArray, List.length_cons, List.length_nil, Nat.reduceAdd, Nat.zero_add, List.range, List.range.loop]) | (refine opsY_nil ?_; refine hK _ _ _ _ ?_; clear hK K) | (first | (first | (refine opsY_move rfl rfl ?_; walk_nrm) | (refine opsY_assign rfl rfl ?_; walk_nrm)) | (refine opsY_unwanted rfl rfl ?_; walk_nrm) | (refine opsY_nw rfl rfl (nw_of (by rfl)) (fun Ky hKy => ?_); go_simp; refine hKy _ _ ⟨rfl, fun Kx => ?_⟩; clear Kx hKy Ky)))
  (refine opsY_store1 rfl rfl (by kernel_rfl) rfl rfl rfl rfl h hz (hL.no _) ?_; walk_nrm)
  repeat (first | (first | refine codeY_seq ?_ | refine codeY_block ?_ | refine codeY_ret ?_ | refine codeY_skip ?_ | refine codeY_exit ?_ | refine codeY_label ?_ | refine thenY_n ?_ | refine thenY_e ?_ | refine thenY_r ?_ | refine blockY_n ?_ | refine blockY_e ?_ | refine blockY_r ?_ | refine blockY_o rfl ?_ | refine codeY_condT rfl ?_ | refine codeY_condF rfl ?_) | (refine codeY_region_k (fun K hK => ?_); simp only [List.size_toArray, List.length_cons, List.length_nil, Nat.reduceAdd, Nat.zero_add, List.range, List.range.loop]) | (refine opsY_nil ?_; refine hK _ _ _ _ ?_; clear hK K) | (first | (first | (refine opsY_move rfl rfl ?_; walk_nrm) | (refine opsY_assign rfl rfl ?_; walk_nrm)) | (refine opsY_unwanted rfl rfl ?_; walk_nrm) | (refine opsY_nw rfl rfl (nw_of (by rfl)) (fun Ky hKy => ?_); go_simp; refine hKy _ _ ⟨rfl, fun Kx => ?_⟩; clear Kx hKy Ky)))
  ((first | refine bodyY_ret rfl (results_1 Try.results129) ?_ | refine bodyY_ret rfl (results_0 Try.results129) ?_ | refine bodyY_ret rfl (results_2 Try.results129) ?_ | refine bodyY_ret rfl (results_3 Try.results129) ?_ | refine bodyY_end rfl (results_1 Try.results129) ?_ | refine bodyY_end rfl (results_0 Try.results129) ?_ | refine bodyY_end rfl (results_2 Try.results129) ?_ | refine bodyY_end rfl (results_3 Try.results129) ?_); exact ⟨rfl, rfl, rfl⟩)
/-- The cell of a variable of one cell. -/
theorem one_alloc (w : World) (v : Value) (t : TypeId) : (w.alloc (.cells #[v] t (0, 0))).cell? ⟨w.heap.size, 0, none⟩ = some v ∧ ∀ o, (w.alloc (.cells #[v] t (0, 0))).frozen? ⟨w.heap.size, o, none⟩ = false := by
  have h := heap_alloc_self w (.cells #[v] t (0, 0))
  refine ⟨?_, fun o => ?_⟩
  · unfold World.cell?; simp only; rw [h]; rfl
  · unfold World.frozen?; simp only; rw [h]; simp
/-- The slots of the clock of 'works' ahead of its Advance. -/
def wSt : Nat → Int := up (up (up (fun _ => 0) 0 2) 1 2) 0 4
def wDue : Nat → Int := up (up (fun _ => 0) 0 5) 1 3
def wFs (f : Value) : Nat → Value := up (up (fun _ => .nilFunc) 0 f) 1 f
/-- .. its invariant. -/
def wInv (w : World) (x : Nat) (r : Nat) (st due : Nat → Int) (fs : Nat → Value) (u : World) : Prop :=
  Chg (fun _ => False) w u ∧ x < u.heap.size ∧ u.frozen? ⟨x, 0, none⟩ = false ∧ due = wDue ∧ fs = wFs (.func (.func 129) #[] #[.pointer (some ⟨x, 0, none⟩)]) ∧ u.cell? ⟨x, 0, none⟩ = some (.int .i64 r) ∧ ((r = 0 ∧ st = wSt) ∨ (r = 1 ∧ st = up wSt 1 4))
theorem chg_in {w u u' : World} {b : Nat} (h : Chg (fun _ => False) w u) (hb : w.heap.size ≤ b) (k : Chg (InClk b) u u') : Chg (fun _ => False) w u' := h.trans k (fun x hx hi => by have := hi.1; omega)
theorem wStable {w : World} {b x : Nat} (hb : w.heap.size ≤ b) (hxb : ¬ InClk b x) {r : Nat} {st due : Nat → Int} {fs : Nat → Value} {u u' : World} (h : wInv w x r st due fs u) (k : Chg (InClk b) u u') : wInv w x r st due fs u' := by
  obtain ⟨h1, h2, h3, h4, h5, h6, h7⟩ := h
  exact ⟨chg_in h1 hb k, Nat.lt_of_lt_of_le h2 k.size, by rw [k.frozen h2 hxb]; exact h3, h4, h5, k.cell_is h6 hxb, h7⟩
theorem wRing {σ : S} {w : World} {b x : Nat} (hL : Lone E σ) (hb : w.heap.size ≤ b) (hx : w.heap.size ≤ x) (hxb : ¬ InClk b x) : RingInv E σ b 9 (wInv w x) where
  stable := fun {r st due fs u u'} h k => wStable hb hxb h k
  bound := fun {r st due fs u} h i hi => by
    rcases h.2.2.2.2.2.2 with ⟨_, rfl⟩ | ⟨_, rfl⟩
    · simp only [wSt, up]; repeat' (first | omega | split)
    · simp only [wSt, up]; repeat' (first | omega | split)
  rings := fun {r st due fs u} hI hr m hm u1 hk1 hC1 => by
    obtain ⟨h1, h2, h3, h4, h5, h6, h7⟩ := wStable hb hxb hI hk1
    rcases h7 with ⟨rfl, rfl⟩ | ⟨rfl, rfl⟩
    · have hm1 : m = 1 := by
        by_cases e : m = 1
        · exact e
        · have hrd := hm.2.1.1
          simp only [wSt, up] at hrd
          revert hrd
          repeat' split
          all_goals first | omega | (intro hrd; exact absurd hrd (by decide))
      subst hm1
      have hne : b + 2 ≠ x := fun e => hxb ⟨by omega, by omega⟩
      refine ⟨129, #[.pointer (some ⟨x, 0, none⟩)], fun y => y = x, by rw [h5]; rfl, fun y hy => by subst hy; exact hI.2.1, ?_⟩
      refine (works_f hL h6 h3 (by omega) (by omega)).r ⟨rfl, (Chg.refl _ u1).setCell _ (.inl rfl), _, _, _, hC1.other _ (by exact hxb), up_same _ _ _, fun u3 k => ?_⟩
      have hk : Chg (fun _ => False) w (u1.setCell ⟨x, 0, none⟩ (.int .i64 (((0 : Nat) : Int) + 1))) := h1.setCell _ (.inr hx)
      refine ⟨chg_in hk hb k, Nat.lt_of_lt_of_le (by rw [size_setCell]; exact h2) k.size, ?_, h4, h5, k.cell_is (at_of h6) hxb, .inr ⟨rfl, ?_⟩⟩
      · rw [k.frozen (by rw [size_setCell]; exact h2) hxb, World.frozen?_setCell]; exact h3
      · funext j
        simp only [up, wSt]
        split
        · rfl
        · rfl
    · exfalso
      have hrd := hm.2.1.1
      simp only [wSt, up] at hrd
      revert hrd
      repeat' split
      all_goals (intro hrd; exact absurd hrd (by decide))
theorem stop_hit {σ : S} {w : World} {n : Nat} {r : Int} {b : Nat} {now busy : Int} {st due : Nat → Int} {fs : Nat → Value} (hL : Lone E σ) (hC : Clk w b now busy st due fs) (hn : n < 16) (hr0 : 0 ≤ r) (hr1 : r ≤ 4611686018427387904) (hr2 : r.tmod 4 = 2) (he : st n = r) :
    CallR E 27 #[.pointer (some ⟨b + 2, 0, none⟩), .pointer none, .agg #[.int .i64 n, .int .i64 r]] σ w (fun σ' v w' => σ' = σ ∧ v = .bool true ∧ Clk w' b now busy (up st n (r + 2)) due fs ∧ Chg (InClk b) w w') :=
  callR_mono (stop_go hL hC hn hr0 hr1 hr2) (fun _ _ _ h => by simpa only [he, decide_true, if_true] using h)
theorem stop_miss {σ : S} {w : World} {n : Nat} {r : Int} {b : Nat} {now busy : Int} {st due : Nat → Int} {fs : Nat → Value} (hL : Lone E σ) (hC : Clk w b now busy st due fs) (hn : n < 16) (hr0 : 0 ≤ r) (hr1 : r ≤ 4611686018427387904) (hr2 : r.tmod 4 = 2) (he : ¬ st n = r) :
    CallR E 27 #[.pointer (some ⟨b + 2, 0, none⟩), .pointer none, .agg #[.int .i64 n, .int .i64 r]] σ w (fun σ' v w' => σ' = σ ∧ v = .bool false ∧ Clk w' b now busy st due fs ∧ Chg (InClk b) w w') :=
  callR_mono (stop_go hL hC hn hr0 hr1 hr2) (fun _ _ _ h => by simpa only [he, decide_false, if_false] using h)
theorem works10 {σ : S} {w : World} (hL : Lone E σ) : CallR E 31 #[] σ w (fun σ' v u => σ' = σ ∧ v = .bool true ∧ Chg (fun _ => False) w u) := by
  have hs := hL.no
  refine callR_of Try.func31 (by kernel_rfl) rfl ?_; simp only [Try.ntmps31, List.size_toArray, List.length_cons, List.length_nil, Nat.reduceAdd, Nat.reduceSub, Array.replicate_succ, Array.replicate_zero, List.push_toArray, List.append_toArray, List.nil_append, List.cons_append]
  repeat (first | (first | refine codeY_seq ?_ | refine codeY_block ?_ | refine codeY_ret ?_ | refine codeY_skip ?_ | refine codeY_exit ?_ | refine codeY_label ?_ | refine thenY_n ?_ | refine thenY_e ?_ | refine thenY_r ?_ | refine blockY_n ?_ | refine blockY_e ?_ | refine blockY_r ?_ | refine blockY_o rfl ?_ | refine codeY_condT rfl ?_ | refine codeY_condF rfl ?_) | (refine codeY_region_k (fun K hK => ?_); simp only [List.size_toArray, List.length_cons, List.length_nil, Nat.reduceAdd, Nat.zero_add, List.range, List.range.loop]) | (refine opsY_nil ?_; refine hK _ _ _ _ ?_; clear hK K) | (first | (first | (refine opsY_move rfl rfl ?_; walk_nrm) | (refine opsY_assign rfl rfl ?_; walk_nrm)) | (refine opsY_unwanted rfl rfl ?_; walk_nrm) | (refine opsY_nw rfl rfl (nw_of (by rfl)) (fun Ky hKy => ?_); go_simp; refine hKy _ _ ⟨rfl, fun Kx => ?_⟩; clear Kx hKy Ky)))
  (refine opsY_callR (cnew hL) rfl rfl rfl (by first | rfl | (simp [Act.eval]; done) | (simp [Act.eval]; rfl) | (simp [Act.eval]; exact ⟨rfl, rfl⟩)) ?_)
  rintro s v w1 ⟨rfl, rfl, hC1, hc1, hz1⟩
  walk_nrm
  repeat (first | (first | refine codeY_seq ?_ | refine codeY_block ?_ | refine codeY_ret ?_ | refine codeY_skip ?_ | refine codeY_exit ?_ | refine codeY_label ?_ | refine thenY_n ?_ | refine thenY_e ?_ | refine thenY_r ?_ | refine blockY_n ?_ | refine blockY_e ?_ | refine blockY_r ?_ | refine blockY_o rfl ?_ | refine codeY_condT rfl ?_ | refine codeY_condF rfl ?_) | (refine codeY_region_k (fun K hK => ?_); simp only [List.size_toArray, List.length_cons, List.length_nil, Nat.reduceAdd, Nat.zero_add, List.range, List.range.loop]) | (refine opsY_nil ?_; refine hK _ _ _ _ ?_; clear hK K) | (first | (first | (refine opsY_move rfl rfl ?_; walk_nrm) | (refine opsY_assign rfl rfl ?_; walk_nrm)) | (refine opsY_unwanted rfl rfl ?_; walk_nrm) | (refine opsY_nw rfl rfl (nw_of (by rfl)) (fun Ky hKy => ?_); go_simp; refine hKy _ _ ⟨rfl, fun Kx => ?_⟩; clear Kx hKy Ky)))
  obtain ⟨b, hb⟩ : ∃ b, w.heap.size = b := ⟨_, rfl⟩
  have hbl : w.heap.size ≤ b := by omega
  rw [hb] at hC1 hz1 ⊢
  obtain ⟨x0, xz⟩ := one_alloc w1 (.int .i64 0) 3
  rw [hz1] at x0 xz
  (refine opsY_store1 rfl rfl (by kernel_rfl) rfl rfl rfl rfl x0 (xz 0) (hs _) ?_; walk_nrm)
  rw [set_self x0]
  have hk : Chg (fun _ => False) w1 (w1.alloc (.cells #[.int .i64 0] 3)) := (Chg.refl _ _).alloc _
  have hC2 := hC1.kept hk (fun _ _ x => x)
  have hc2 := hc1.alloc (.cells #[.int .i64 0] 3)
  have hz2 : (w1.alloc (.cells #[.int .i64 0] 3)).heap.size = b + 36 := by rw [World.size_alloc, hz1]
  clear hk hC1 hc1 hz1
  revert x0 xz hC2 hc2 hz2
  generalize w1.alloc (.cells #[.int .i64 0] 3) = w2
  intro x0 xz hC2 hc2 hz2
  have xz := xz 0
  repeat (first | (first | refine codeY_seq ?_ | refine codeY_block ?_ | refine codeY_ret ?_ | refine codeY_skip ?_ | refine codeY_exit ?_ | refine codeY_label ?_ | refine thenY_n ?_ | refine thenY_e ?_ | refine thenY_r ?_ | refine blockY_n ?_ | refine blockY_e ?_ | refine blockY_r ?_ | refine blockY_o rfl ?_ | refine codeY_condT rfl ?_ | refine codeY_condF rfl ?_) | (refine codeY_region_k (fun K hK => ?_); simp only [List.size_toArray, List.length_cons, List.length_nil, Nat.reduceAdd, Nat.zero_add, List.range, List.range.loop]) | (refine opsY_nil ?_; refine hK _ _ _ _ ?_; clear hK K) | (first | (first | (refine opsY_move rfl rfl ?_; walk_nrm) | (refine opsY_assign rfl rfl ?_; walk_nrm)) | (refine opsY_unwanted rfl rfl ?_; walk_nrm) | (refine opsY_nw rfl rfl (nw_of (by rfl)) (fun Ky hKy => ?_); go_simp; refine hKy _ _ ⟨rfl, fun Kx => ?_⟩; clear Kx hKy Ky)))
  (refine opsY_callR (set_is (i := 0) (fn := .func 129) (f1 := #[]) (f2 := #[.pointer (some ⟨b + 35, 0, none⟩)]) 5 hL hC2 (by omega) (by omega) (by omega) (by decide) (by decide) (by decide) (fun j hj => by omega)) rfl rfl rfl (by first | rfl | (simp [Act.eval]; done) | (simp [Act.eval]; rfl) | (simp [Act.eval]; exact ⟨rfl, rfl⟩)) ?_)
  rintro s v w3 ⟨rfl, rfl, hC3, hk⟩
  have hxn : ¬ InClk b (b + 35) := fun h => by have := h.2; omega
  have x0 := hk.cell_is x0 hxn
  have xz : w3.frozen? ⟨b + 35, 0, none⟩ = false := by rw [hk.frozen (by simp only; omega) hxn]; exact xz
  have hc3 := chg_in hc2 hbl hk
  have hz3 := hk.size
  clear hk hC2 hc2
  walk_nrm
  repeat (first | (first | refine codeY_seq ?_ | refine codeY_block ?_ | refine codeY_ret ?_ | refine codeY_skip ?_ | refine codeY_exit ?_ | refine codeY_label ?_ | refine thenY_n ?_ | refine thenY_e ?_ | refine thenY_r ?_ | refine blockY_n ?_ | refine blockY_e ?_ | refine blockY_r ?_ | refine blockY_o rfl ?_ | refine codeY_condT rfl ?_ | refine codeY_condF rfl ?_) | (refine codeY_region_k (fun K hK => ?_); simp only [List.size_toArray, List.length_cons, List.length_nil, Nat.reduceAdd, Nat.zero_add, List.range, List.range.loop]) | (refine opsY_nil ?_; refine hK _ _ _ _ ?_; clear hK K) | (first | (first | (refine opsY_move rfl rfl ?_; walk_nrm) | (refine opsY_assign rfl rfl ?_; walk_nrm)) | (refine opsY_unwanted rfl rfl ?_; walk_nrm) | (refine opsY_nw rfl rfl (nw_of (by rfl)) (fun Ky hKy => ?_); go_simp; refine hKy _ _ ⟨rfl, fun Kx => ?_⟩; clear Kx hKy Ky)))
  obtain ⟨a0, a1, az⟩ := two_alloc w3 (.int .i64 0) (.int .i64 0) 32
  (refine opsY_store2 rfl rfl rfl rfl (by kernel_rfl) rfl rfl a0 a1 az (fun o => hs _) ?_; walk_nrm)
  rw [alloc_set, alloc_set]
  clear a0 a1 az
  generalize hq : w3.alloc _ = w4
  have hq : w3.alloc (.cells #[.int .i64 0, .int .i64 2] 32 (0, 0)) = w4 := hq
  obtain ⟨a0, a1, _⟩ := two_alloc w3 (.int .i64 0) (.int .i64 2) 32
  have hk : Chg (fun _ => False) w3 (w3.alloc (.cells #[.int .i64 0, .int .i64 2] 32)) := (Chg.refl _ _).alloc _
  have hz4 : (w3.alloc (.cells #[.int .i64 0, .int .i64 2] 32)).heap.size = w3.heap.size + 1 := by rw [World.size_alloc]
  rw [hq] at hk hz4 a0 a1
  clear hq
  have hC4 := hC3.kept hk (fun _ _ x => x)
  have hc4 := hc3.trans hk (fun _ _ x => x)
  have x0 := hk.cell_is x0 (fun x => x)
  have xz : w4.frozen? ⟨b + 35, 0, none⟩ = false := by rw [hk.frozen (by simp only; omega) (fun x => x)]; exact xz
  clear hk hC3 hc3
  repeat (first | (first | refine codeY_seq ?_ | refine codeY_block ?_ | refine codeY_ret ?_ | refine codeY_skip ?_ | refine codeY_exit ?_ | refine codeY_label ?_ | refine thenY_n ?_ | refine thenY_e ?_ | refine thenY_r ?_ | refine blockY_n ?_ | refine blockY_e ?_ | refine blockY_r ?_ | refine blockY_o rfl ?_ | refine codeY_condT rfl ?_ | refine codeY_condF rfl ?_) | (refine codeY_region_k (fun K hK => ?_); simp only [List.size_toArray, List.length_cons, List.length_nil, Nat.reduceAdd, Nat.zero_add, List.range, List.range.loop]) | (refine opsY_nil ?_; refine hK _ _ _ _ ?_; clear hK K) | (first | (first | (refine opsY_move rfl rfl ?_; walk_nrm) | (refine opsY_assign rfl rfl ?_; walk_nrm)) | (refine opsY_unwanted rfl rfl ?_; walk_nrm) | (refine opsY_nw rfl rfl (nw_of (by rfl)) (fun Ky hKy => ?_); go_simp; refine hKy _ _ ⟨rfl, fun Kx => ?_⟩; clear Kx hKy Ky)))
  (refine opsY_callR (set_is (i := 1) (fn := .func 129) (f1 := #[]) (f2 := #[.pointer (some ⟨b + 35, 0, none⟩)]) 3 hL hC4 (by omega) (by omega) (by omega) (by decide) (by decide) (by decide) (fun j hj => by have e : j = 0 := (by omega); subst e; decide)) rfl rfl rfl (by first | rfl | (simp [Act.eval]; done) | (simp [Act.eval]; rfl) | (simp [Act.eval]; exact ⟨rfl, rfl⟩)) ?_)
  rintro s v w5 ⟨rfl, rfl, hC5, hk⟩
  have x0 := hk.cell_is x0 hxn
  have xz : w5.frozen? ⟨b + 35, 0, none⟩ = false := by rw [hk.frozen (by simp only; omega) hxn]; exact xz
  have hpn : ¬ InClk b w3.heap.size := fun h => by have := h.2; omega
  have a0 := hk.cell_is a0 hpn
  have a1 := hk.cell_is a1 hpn
  have hc5 := chg_in hc4 hbl hk
  have hz5 := hk.size
  clear hk hC4 hc4
  walk_nrm
  repeat (first | (first | refine codeY_seq ?_ | refine codeY_block ?_ | refine codeY_ret ?_ | refine codeY_skip ?_ | refine codeY_exit ?_ | refine codeY_label ?_ | refine thenY_n ?_ | refine thenY_e ?_ | refine thenY_r ?_ | refine blockY_n ?_ | refine blockY_e ?_ | refine blockY_r ?_ | refine blockY_o rfl ?_ | refine codeY_condT rfl ?_ | refine codeY_condF rfl ?_) | (refine codeY_region_k (fun K hK => ?_); simp only [List.size_toArray, List.length_cons, List.length_nil, Nat.reduceAdd, Nat.zero_add, List.range, List.range.loop]) | (refine opsY_nil ?_; refine hK _ _ _ _ ?_; clear hK K) | (first | (first | (refine opsY_move rfl rfl ?_; walk_nrm) | (refine opsY_assign rfl rfl ?_; walk_nrm)) | (refine opsY_unwanted rfl rfl ?_; walk_nrm) | (refine opsY_nw rfl rfl (nw_of (by rfl)) (fun Ky hKy => ?_); go_simp; refine hKy _ _ ⟨rfl, fun Kx => ?_⟩; clear Kx hKy Ky)))
  obtain ⟨c0, c1, cz⟩ := two_alloc w5 (.int .i64 0) (.int .i64 0) 32
  (refine opsY_store2 rfl rfl rfl rfl (by kernel_rfl) rfl rfl c0 c1 cz (fun o => hs _) ?_; walk_nrm)
  rw [alloc_set, alloc_set]
  clear c0 c1 cz
  generalize hq : w5.alloc _ = w6
  have hq : w5.alloc (.cells #[.int .i64 1, .int .i64 2] 32 (0, 0)) = w6 := hq
  obtain ⟨d0, d1, _⟩ := two_alloc w5 (.int .i64 1) (.int .i64 2) 32
  have hk : Chg (fun _ => False) w5 (w5.alloc (.cells #[.int .i64 1, .int .i64 2] 32)) := (Chg.refl _ _).alloc _
  have hz6 : (w5.alloc (.cells #[.int .i64 1, .int .i64 2] 32)).heap.size = w5.heap.size + 1 := by rw [World.size_alloc]
  rw [hq] at hk hz6 d0 d1
  clear hq
  have hC6 := hC5.kept hk (fun _ _ x => x)
  have hc6 := hc5.trans hk (fun _ _ x => x)
  have x0 := hk.cell_is x0 (fun x => x)
  have xz : w6.frozen? ⟨b + 35, 0, none⟩ = false := by rw [hk.frozen (by simp only; omega) (fun x => x)]; exact xz
  have a0 := hk.cell_is a0 (fun x => x)
  have a1 := hk.cell_is a1 (fun x => x)
  clear hk hC5 hc5
  repeat (first | (first | refine codeY_seq ?_ | refine codeY_block ?_ | refine codeY_ret ?_ | refine codeY_skip ?_ | refine codeY_exit ?_ | refine codeY_label ?_ | refine thenY_n ?_ | refine thenY_e ?_ | refine thenY_r ?_ | refine blockY_n ?_ | refine blockY_e ?_ | refine blockY_r ?_ | refine blockY_o rfl ?_ | refine codeY_condT rfl ?_ | refine codeY_condF rfl ?_) | (refine codeY_region_k (fun K hK => ?_); simp only [List.size_toArray, List.length_cons, List.length_nil, Nat.reduceAdd, Nat.zero_add, List.range, List.range.loop]) | (refine opsY_nil ?_; refine hK _ _ _ _ ?_; clear hK K) | (first | (first | (refine opsY_move rfl rfl ?_; walk_nrm) | (refine opsY_assign rfl rfl ?_; walk_nrm)) | (refine opsY_unwanted rfl rfl ?_; walk_nrm) | (refine opsY_nw rfl rfl (nw_of (by rfl)) (fun Ky hKy => ?_); go_simp; refine hKy _ _ ⟨rfl, fun Kx => ?_⟩; clear Kx hKy Ky)))
  have a0' : w6.cell? ⟨w3.heap.size, 0, none⟩ = some (.int .i64 (0 : Nat)) := a0
  (refine opsY_callR (stop_hit (n := 0) (r := 2) hL hC6 (by omega) (by omega) (by omega) (by decide) (by decide)) rfl rfl rfl (by first | rfl | (simp [Act.eval]; done) | (simp [Act.eval]; rfl) | (simp [Act.eval]; exact ⟨rfl, rfl⟩)) ?_)
  rintro s v w7 ⟨rfl, rfl, hC7, hk⟩
  have hC7 : Clk w7 b 0 0 wSt wDue (wFs (.func (.func 129) #[] #[.pointer (some ⟨b + 35, 0, none⟩)])) := hC7
  have hqn : ¬ InClk b w5.heap.size := fun h => by have := h.2; omega
  have x0 := hk.cell_is x0 hxn
  have xz : w7.frozen? ⟨b + 35, 0, none⟩ = false := by rw [hk.frozen (by simp only; omega) hxn]; exact xz
  have a0 := hk.cell_is a0 hpn
  have a1 := hk.cell_is a1 hpn
  have d0 := hk.cell_is d0 hqn
  have d1 := hk.cell_is d1 hqn
  have hc7 := chg_in hc6 hbl hk
  have hz7 := hk.size
  clear hk hC6 hc6 a0'
  walk_nrm
  repeat (first | (first | refine codeY_seq ?_ | refine codeY_block ?_ | refine codeY_ret ?_ | refine codeY_skip ?_ | refine codeY_exit ?_ | refine codeY_label ?_ | refine thenY_n ?_ | refine thenY_e ?_ | refine thenY_r ?_ | refine blockY_n ?_ | refine blockY_e ?_ | refine blockY_r ?_ | refine blockY_o rfl ?_ | refine codeY_condT rfl ?_ | refine codeY_condF rfl ?_) | (refine codeY_region_k (fun K hK => ?_); simp only [List.size_toArray, List.length_cons, List.length_nil, Nat.reduceAdd, Nat.zero_add, List.range, List.range.loop]) | (refine opsY_nil ?_; refine hK _ _ _ _ ?_; clear hK K) | (first | (first | (refine opsY_move rfl rfl ?_; walk_nrm) | (refine opsY_assign rfl rfl ?_; walk_nrm)) | (refine opsY_unwanted rfl rfl ?_; walk_nrm) | (refine opsY_nw rfl rfl (nw_of (by rfl)) (fun Ky hKy => ?_); go_simp; refine hKy _ _ ⟨rfl, fun Kx => ?_⟩; clear Kx hKy Ky)))
  (refine opsY_callR (stop_miss (n := 0) (r := 2) hL hC7 (by omega) (by omega) (by omega) (by decide) (by decide)) rfl rfl rfl (by first | rfl | (simp [Act.eval]; done) | (simp [Act.eval]; rfl) | (simp [Act.eval]; exact ⟨rfl, rfl⟩)) ?_)
  rintro s v w8 ⟨rfl, rfl, hC8, hk⟩
  have x0 := hk.cell_is x0 hxn
  have xz : w8.frozen? ⟨b + 35, 0, none⟩ = false := by rw [hk.frozen (by simp only; omega) hxn]; exact xz
  have a0 := hk.cell_is a0 hpn
  have a1 := hk.cell_is a1 hpn
  have d0 := hk.cell_is d0 hqn
  have d1 := hk.cell_is d1 hqn
  have hc8 := chg_in hc7 hbl hk
  have hz8 := hk.size
  clear hk hC7 hc7
  walk_nrm
  repeat (first | (first | refine codeY_seq ?_ | refine codeY_block ?_ | refine codeY_ret ?_ | refine codeY_skip ?_ | refine codeY_exit ?_ | refine codeY_label ?_ | refine thenY_n ?_ | refine thenY_e ?_ | refine thenY_r ?_ | refine blockY_n ?_ | refine blockY_e ?_ | refine blockY_r ?_ | refine blockY_o rfl ?_ | refine codeY_condT rfl ?_ | refine codeY_condF rfl ?_) | (refine codeY_region_k (fun K hK => ?_); simp only [List.size_toArray, List.length_cons, List.length_nil, Nat.reduceAdd, Nat.zero_add, List.range, List.range.loop]) | (refine opsY_nil ?_; refine hK _ _ _ _ ?_; clear hK K) | (first | (first | (refine opsY_move rfl rfl ?_; walk_nrm) | (refine opsY_assign rfl rfl ?_; walk_nrm)) | (refine opsY_unwanted rfl rfl ?_; walk_nrm) | (refine opsY_nw rfl rfl (nw_of (by rfl)) (fun Ky hKy => ?_); go_simp; refine hKy _ _ ⟨rfl, fun Kx => ?_⟩; clear Kx hKy Ky)))
  have hR : RingInv E s b (0 + min 9 (4611686018427387904 - 0)) (wInv w (b + 35)) := by
    have e : (0 + min 9 (4611686018427387904 - 0) : Int) = 9 := by decide
    rw [e]; exact wRing hL hbl (by omega) hxn
  have hI : wInv w (b + 35) 0 wSt wDue (wFs (.func (.func 129) #[] #[.pointer (some ⟨b + 35, 0, none⟩)])) w8 := ⟨hc8, by omega, xz, rfl, rfl, x0, .inl ⟨rfl, rfl⟩⟩
  (refine opsY_callR (advance_is (d := 9) hL hC8 (by omega) (by omega) (by omega) hR hI) rfl rfl rfl (by first | rfl | (simp [Act.eval]; done) | (simp [Act.eval]; rfl) | (simp [Act.eval]; exact ⟨rfl, rfl⟩)) ?_)
  rintro s v w9 ⟨rfl, r, st, due, fs, hr, rfl, hC9, ⟨hc9, hx9, hxz9, rfl, rfl, hx, hcase⟩, hrdy⟩
  have e9 : (0 + min 9 (4611686018427387904 - 0) : Int) = 9 := by decide
  rw [e9] at hC9 hrdy
  have hr1 : r = 1 := by
    rcases hcase with ⟨rfl, rfl⟩ | ⟨rfl, _⟩
    · rcases hrdy with h | h
      · omega
      · exact absurd (show Rdy wSt wDue 9 1 from ⟨by decide, by decide⟩) (h 1 (by omega))
    · rfl
  subst hr1
  have hx : w9.cell? ⟨b + 35, 0, none⟩ = some (.int .i64 1) := hx
  clear hR hI hcase hrdy hC8 hc8
  walk_nrm
  repeat (first | (first | refine codeY_seq ?_ | refine codeY_block ?_ | refine codeY_ret ?_ | refine codeY_skip ?_ | refine codeY_exit ?_ | refine codeY_label ?_ | refine thenY_n ?_ | refine thenY_e ?_ | refine thenY_r ?_ | refine blockY_n ?_ | refine blockY_e ?_ | refine blockY_r ?_ | refine blockY_o rfl ?_ | refine codeY_condT rfl ?_ | refine codeY_condF rfl ?_) | (refine codeY_region_k (fun K hK => ?_); simp only [List.size_toArray, List.length_cons, List.length_nil, Nat.reduceAdd, Nat.zero_add, List.range, List.range.loop]) | (refine opsY_nil ?_; refine hK _ _ _ _ ?_; clear hK K) | (first | (first | (refine opsY_move rfl rfl ?_; walk_nrm) | (refine opsY_assign rfl rfl ?_; walk_nrm)) | (refine opsY_unwanted rfl rfl ?_; walk_nrm) | (refine opsY_nw rfl rfl (nw_of (by rfl)) (fun Ky hKy => ?_); go_simp; refine hKy _ _ ⟨rfl, fun Kx => ?_⟩; clear Kx hKy Ky)))
  (refine opsY_callTo (cnow_is hC9.cnow hC9.now) rfl rfl rfl (by first | rfl | (simp [Act.eval]; done) | (simp [Act.eval]; rfl) | (simp [Act.eval]; exact ⟨rfl, rfl⟩)) ?_; walk_nrm)
  repeat (first | (first | refine codeY_seq ?_ | refine codeY_block ?_ | refine codeY_ret ?_ | refine codeY_skip ?_ | refine codeY_exit ?_ | refine codeY_label ?_ | refine thenY_n ?_ | refine thenY_e ?_ | refine thenY_r ?_ | refine blockY_n ?_ | refine blockY_e ?_ | refine blockY_r ?_ | refine blockY_o rfl ?_ | refine codeY_condT rfl ?_ | refine codeY_condF rfl ?_) | (refine codeY_region_k (fun K hK => ?_); simp only [List.size_toArray, List.length_cons, List.length_nil, Nat.reduceAdd, Nat.zero_add, List.range, List.range.loop]) | (refine opsY_nil ?_; refine hK _ _ _ _ ?_; clear hK K) | (first | (first | (refine opsY_move rfl rfl ?_; walk_nrm) | (refine opsY_assign rfl rfl ?_; walk_nrm)) | (refine opsY_unwanted rfl rfl ?_; walk_nrm) | (refine opsY_nw rfl rfl (nw_of (by rfl)) (fun Ky hKy => ?_); go_simp; refine hKy _ _ ⟨rfl, fun Kx => ?_⟩; clear Kx hKy Ky)))
  (first | refine bodyY_ret rfl (results_1 Try.results31) ?_ | refine bodyY_ret rfl (results_0 Try.results31) ?_ | refine bodyY_ret rfl (results_2 Try.results31) ?_ | refine bodyY_ret rfl (results_3 Try.results31) ?_ | refine bodyY_end rfl (results_1 Try.results31) ?_ | refine bodyY_end rfl (results_0 Try.results31) ?_ | refine bodyY_end rfl (results_2 Try.results31) ?_ | refine bodyY_end rfl (results_3 Try.results31) ?_)
  exact ⟨rfl, rfl, hc9⟩
end Go.Proofs.Ythnfheohfnhcpaa.Y
