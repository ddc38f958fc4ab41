/- The clock: Set. -/
import Derived.Test.YthnfheohfnhcpaaChg
import Derived.Test.YthnfheohfnhcpaaClm
import Derived.Test.YthnfheohfnhcpaaDrw
import Derived.Test.YthnfheohfnhcpaaProg
import Derived.WalkKit
set_option linter.unusedSimpArgs false
set_option linter.unusedVariables false
set_option maxRecDepth 20000
set_option maxHeartbeats 4000000
namespace Go.Proofs.Ythnfheohfnhcpaa.Y
open Go Go.Conc Go.Proofs
variable {S : Type} {E : Eng Try.prog S}





def up {α : Type} (f : Nat → α) (i : Nat) (v : α) : Nat → α := fun j => if j = i then v else f j
theorem up_same {α : Type} (f : Nat → α) (i : Nat) (v : α) : up f i v i = v := by simp [up]
theorem up_ne {α : Type} (f : Nat → α) {i j : Nat} (v : α) (h : j ≠ i) : up f i v j = f j := by simp [up, h]
/-- The blocks of a clock. -/
def InClk (b : Nat) : Nat → Prop := fun x => b ≤ x ∧ x < b + 35
section
variable {w w' : World} {b : Nat} {now busy : Int} {st due : Nat → Int} {fs : Nat → Value}
theorem Clk.lt (h : Clk w b now busy st due fs) {x : Nat} (hx : InClk b x) : x < w.heap.size := by
  obtain ⟨h1, h2⟩ := hx
  have := (h.due 15 (by omega)).lt
  omega
theorem Clk.kept (h : Clk w b now busy st due fs) {T : Nat → Prop} (k : Chg T w w') (hT : ∀ x, InClk b x → ¬ T x) : Clk w' b now busy st due fs := by
  have hin : ∀ x, x < 35 → InClk b (b + x) := fun x hx => ⟨by omega, by omega⟩
  have h2 : ¬ T (b + 2) := hT _ (hin 2 (by omega))
  refine ⟨k.cell_is h.cnow h2, k.cell_is h.cbusy h2, fun i hi => k.cell_is (h.cst i hi) h2, fun i hi => k.cell_is (h.cdue i hi) h2, fun i hi => k.cell_is (h.cf i hi) h2, fun o => ?_, k.isC h.now (hT _ (hin 0 (by omega))), k.isC h.busy (hT _ (hin 1 (by omega))), fun i hi => k.isC (h.st i hi) (hT _ ⟨by omega, by omega⟩), fun i hi => k.isC (h.due i hi) (hT _ ⟨by omega, by omega⟩)⟩
  rw [k.frozen (h.lt (hin 2 (by omega))) h2]; exact h.cz o
theorem Clk.other (h : Clk w b now busy st due fs) {a : Addr} (v : Value) (ha : ¬ InClk b a.block) : Clk (w.setCell a v) b now busy st due fs :=
  h.kept (T := fun x => x = a.block) ((Chg.refl _ w).setCell v (.inl rfl)) (fun x hx e => ha (e ▸ hx))
theorem Clk.setSt (h : Clk w b now busy st due fs) {i : Nat} (hi : i < 16) (v : Int) : Clk (w.setCell ⟨b + 3 + 2 * i, 0, none⟩ (.int .i64 v)) b now busy (up st i v) due fs := by
  have e : ∀ o, (w.setCell ⟨b + 3 + 2 * i, 0, none⟩ (.int .i64 v)).cell? ⟨b + 2, o, none⟩ = w.cell? ⟨b + 2, o, none⟩ := fun o => World.cell?_setCell_other _ _ _ _ (fun e => by have := congrArg Addr.block e; simp at this; omega)
  refine ⟨by rw [e]; exact h.cnow, by rw [e]; exact h.cbusy, fun j hj => by rw [e]; exact h.cst j hj, fun j hj => by rw [e]; exact h.cdue j hj, fun j hj => by rw [e]; exact h.cf j hj, fun o => by rw [World.frozen?_setCell]; exact h.cz o, h.now.other (by simp; omega) _, h.busy.other (by simp; omega) _, fun j hj => ?_, fun j hj => (h.due j hj).other (by simp; omega) _⟩
  by_cases ej : j = i
  · subst ej; rw [up_same]; exact (h.st j hj).set v
  · rw [up_ne _ _ ej]; exact (h.st j hj).other (by simp; omega) _
theorem Clk.setDue (h : Clk w b now busy st due fs) {i : Nat} (hi : i < 16) (v : Int) : Clk (w.setCell ⟨b + 4 + 2 * i, 0, none⟩ (.int .i64 v)) b now busy st (up due i v) fs := by
  have e : ∀ o, (w.setCell ⟨b + 4 + 2 * i, 0, none⟩ (.int .i64 v)).cell? ⟨b + 2, o, none⟩ = w.cell? ⟨b + 2, o, none⟩ := fun o => World.cell?_setCell_other _ _ _ _ (fun e => by have := congrArg Addr.block e; simp at this; omega)
  refine ⟨by rw [e]; exact h.cnow, by rw [e]; exact h.cbusy, fun j hj => by rw [e]; exact h.cst j hj, fun j hj => by rw [e]; exact h.cdue j hj, fun j hj => by rw [e]; exact h.cf j hj, fun o => by rw [World.frozen?_setCell]; exact h.cz o, h.now.other (by simp; omega) _, h.busy.other (by simp; omega) _, fun j hj => (h.st j hj).other (by simp; omega) _, fun j hj => ?_⟩
  by_cases ej : j = i
  · subst ej; rw [up_same]; exact (h.due j hj).set v
  · rw [up_ne _ _ ej]; exact (h.due j hj).other (by simp; omega) _
theorem Clk.setNow (h : Clk w b now busy st due fs) (v : Int) : Clk (w.setCell ⟨b, 0, none⟩ (.int .i64 v)) b v busy st due fs := by
  have e : ∀ o, (w.setCell ⟨b, 0, none⟩ (.int .i64 v)).cell? ⟨b + 2, o, none⟩ = w.cell? ⟨b + 2, o, none⟩ := fun o => World.cell?_setCell_other _ _ _ _ (fun e => by have := congrArg Addr.block e; simp at this)
  exact ⟨by rw [e]; exact h.cnow, by rw [e]; exact h.cbusy, fun j hj => by rw [e]; exact h.cst j hj, fun j hj => by rw [e]; exact h.cdue j hj, fun j hj => by rw [e]; exact h.cf j hj, fun o => by rw [World.frozen?_setCell]; exact h.cz o, h.now.set v, h.busy.other (by simp) _, fun j hj => (h.st j hj).other (by simp; omega) _, fun j hj => (h.due j hj).other (by simp; omega) _⟩
theorem Clk.setBusy (h : Clk w b now busy st due fs) (v : Int) : Clk (w.setCell ⟨b + 1, 0, none⟩ (.int .i64 v)) b now v st due fs := by
  have e : ∀ o, (w.setCell ⟨b + 1, 0, none⟩ (.int .i64 v)).cell? ⟨b + 2, o, none⟩ = w.cell? ⟨b + 2, o, none⟩ := fun o => World.cell?_setCell_other _ _ _ _ (fun e => by have := congrArg Addr.block e; simp at this)
  exact ⟨by rw [e]; exact h.cnow, by rw [e]; exact h.cbusy, fun j hj => by rw [e]; exact h.cst j hj, fun j hj => by rw [e]; exact h.cdue j hj, fun j hj => by rw [e]; exact h.cf j hj, fun o => by rw [World.frozen?_setCell]; exact h.cz o, h.now.other (by simp) _, h.busy.set v, fun j hj => (h.st j hj).other (by simp; omega) _, fun j hj => (h.due j hj).other (by simp; omega) _⟩
theorem Clk.setF (h : Clk w b now busy st due fs) {i : Nat} (hi : i < 16) (v : Value) : Clk (w.setCell ⟨b + 2, 2 + i * 3 + 2, none⟩ v) b now busy st due (up fs i v) := by
  have e : ∀ o, o ≠ 2 + i * 3 + 2 → (w.setCell ⟨b + 2, 2 + i * 3 + 2, none⟩ v).cell? ⟨b + 2, o, none⟩ = w.cell? ⟨b + 2, o, none⟩ := fun o ho => World.cell?_setCell_other _ _ _ _ (fun e => ho (congrArg Addr.off e).symm)
  refine ⟨by rw [e _ (by omega)]; exact h.cnow, by rw [e _ (by omega)]; exact h.cbusy, fun j hj => by rw [e _ (by omega)]; exact h.cst j hj, fun j hj => by rw [e _ (by omega)]; exact h.cdue j hj, fun j hj => ?_, fun o => by rw [World.frozen?_setCell]; exact h.cz o, h.now.other (by simp) _, h.busy.other (by simp) _, fun j hj => (h.st j hj).other (by simp; omega) _, fun j hj => (h.due j hj).other (by simp; omega) _⟩
  by_cases ej : j = i
  · subst ej; rw [up_same]; exact World.cell?_setCell_same _ _ _ (h.cf j hj)
  · rw [up_ne _ _ ej, e _ (by omega)]; exact h.cf j hj
end
theorem set_arg {σ : S} {w : World} {b : Nat} {now busy : Int} {st due : Nat → Int} {fs : Nat → Value} (d : Int) (f : Value) (hL : Lone E σ) (hC : Clk w b now busy st due fs) (hd : d < 0 ∨ 4611686018427387904 < d ∨ f = .nilFunc) : CallR E 25 #[.pointer (some ⟨b + 2, 0, none⟩), .pointer none, .int .i64 d, f] σ w (fun σ' v w' => σ' = σ ∧ v = .tuple #[.agg #[.int .i64 0, .int .i64 0], .int .i64 1] ∧ Chg (fun _ => False) w w') := by
  have hs := hL.no
  obtain ⟨e0, e1, ez⟩ := two_alloc w (.int .i64 0) (.int .i64 0) 32
  have hc : Chg (fun _ => False) w (w.alloc (.cells #[.int .i64 0, .int .i64 0] 32 (0, 0))) := (Chg.refl _ w).alloc _
  have h' := hc.cell_is hC.cnow (fun x => x)
  by_cases h1 : d < 0
  · refine callR_of Try.func25 (by kernel_rfl) rfl ?_; simp only [Try.ntmps25, List.size_toArray, List.length_cons, List.length_nil, Nat.reduceAdd, Nat.reduceSub, Array.replicate_succ, Array.replicate_zero, List.push_toArray, List.append_toArray, List.nil_append, List.cons_append]
    repeat (first | (first | refine codeY_seq ?_ | refine codeY_block ?_ | refine codeY_ret ?_ | refine codeY_skip ?_ | refine codeY_exit ?_ | refine codeY_label ?_ | refine thenY_n ?_ | refine thenY_e ?_ | refine thenY_r ?_ | refine blockY_n ?_ | refine blockY_e ?_ | refine blockY_r ?_ | refine blockY_o rfl ?_ | refine codeY_condT rfl ?_ | refine codeY_condF rfl ?_) | (refine codeY_region_k (fun K hK => ?_); simp only [List.size_toArray, List.length_cons, List.length_nil, Nat.reduceAdd, Nat.zero_add, List.range, List.range.loop]) | (refine opsY_nil ?_; refine hK _ _ _ _ ?_; clear hK K) | (first | (first | (refine opsY_move rfl rfl ?_; walk_nrm) | (refine opsY_assign rfl rfl ?_; walk_nrm)) | (refine opsY_unwanted rfl rfl ?_; walk_nrm) | (refine opsY_nw rfl rfl (nw_of (by rfl)) (fun Ky hKy => ?_); go_simp; refine hKy _ _ ⟨rfl, fun Kx => ?_⟩; clear Kx hKy Ky)))
    (refine opsY_callTo (cmade_yes h') rfl rfl rfl (by first | rfl | (simp [Act.eval]; done) | (simp [Act.eval]; rfl) | (simp [Act.eval]; exact ⟨rfl, rfl⟩)) ?_; walk_nrm)
    repeat (first | (first | refine codeY_seq ?_ | refine codeY_block ?_ | refine codeY_ret ?_ | refine codeY_skip ?_ | refine codeY_exit ?_ | refine codeY_label ?_ | refine thenY_n ?_ | refine thenY_e ?_ | refine thenY_r ?_ | refine blockY_n ?_ | refine blockY_e ?_ | refine blockY_r ?_ | refine blockY_o rfl ?_ | refine codeY_condT rfl ?_ | refine codeY_condF rfl ?_) | (refine codeY_region_k (fun K hK => ?_); simp only [List.size_toArray, List.length_cons, List.length_nil, Nat.reduceAdd, Nat.zero_add, List.range, List.range.loop]) | (refine opsY_nil ?_; refine hK _ _ _ _ ?_; clear hK K) | (first | (first | (refine opsY_move rfl rfl ?_; walk_nrm) | (refine opsY_assign rfl rfl ?_; walk_nrm)) | (refine opsY_unwanted rfl rfl ?_; walk_nrm) | (refine opsY_nw rfl rfl (nw_of (by rfl)) (fun Ky hKy => ?_); go_simp; refine hKy _ _ ⟨rfl, fun Kx => ?_⟩; clear Kx hKy Ky)))
    (refine opsY_store2 rfl rfl rfl rfl (by kernel_rfl) rfl rfl e0 e1 ez (fun o => hs _) ?_; walk_nrm)
    rw [set_self e0, set_self e1]
    repeat (first | (first | refine codeY_seq ?_ | refine codeY_block ?_ | refine codeY_ret ?_ | refine codeY_skip ?_ | refine codeY_exit ?_ | refine codeY_label ?_ | refine thenY_n ?_ | refine thenY_e ?_ | refine thenY_r ?_ | refine blockY_n ?_ | refine blockY_e ?_ | refine blockY_r ?_ | refine blockY_o rfl ?_ | refine codeY_condT rfl ?_ | refine codeY_condF rfl ?_) | (refine codeY_region_k (fun K hK => ?_); simp only [List.size_toArray, List.length_cons, List.length_nil, Nat.reduceAdd, Nat.zero_add, List.range, List.range.loop]) | (refine opsY_nil ?_; refine hK _ _ _ _ ?_; clear hK K) | (first | (first | (refine opsY_move rfl rfl ?_; walk_nrm) | (refine opsY_assign rfl rfl ?_; walk_nrm)) | (refine opsY_unwanted rfl rfl ?_; walk_nrm) | (refine opsY_nw rfl rfl (nw_of (by rfl)) (fun Ky hKy => ?_); go_simp; refine hKy _ _ ⟨rfl, fun Kx => ?_⟩; clear Kx hKy Ky)))
    (first | refine bodyY_ret rfl (results_ct Try.results25 rfl (by go_simp; try rfl) (by go_simp; try rfl) e0 e1) ?_ | refine bodyY_end rfl (results_ct Try.results25 rfl (by go_simp; try rfl) (by go_simp; try rfl) e0 e1) ?_)
    exact ⟨rfl, rfl, hc⟩
  · by_cases h2 : d > 4611686018427387904
    · refine callR_of Try.func25 (by kernel_rfl) rfl ?_; simp only [Try.ntmps25, List.size_toArray, List.length_cons, List.length_nil, Nat.reduceAdd, Nat.reduceSub, Array.replicate_succ, Array.replicate_zero, List.push_toArray, List.append_toArray, List.nil_append, List.cons_append]
      repeat (first | (first | refine codeY_seq ?_ | refine codeY_block ?_ | refine codeY_ret ?_ | refine codeY_skip ?_ | refine codeY_exit ?_ | refine codeY_label ?_ | refine thenY_n ?_ | refine thenY_e ?_ | refine thenY_r ?_ | refine blockY_n ?_ | refine blockY_e ?_ | refine blockY_r ?_ | refine blockY_o rfl ?_ | refine codeY_condT rfl ?_ | refine codeY_condF rfl ?_) | (refine codeY_region_k (fun K hK => ?_); simp only [List.size_toArray, List.length_cons, List.length_nil, Nat.reduceAdd, Nat.zero_add, List.range, List.range.loop]) | (refine opsY_nil ?_; refine hK _ _ _ _ ?_; clear hK K) | (first | (first | (refine opsY_move rfl rfl ?_; walk_nrm) | (refine opsY_assign rfl rfl ?_; walk_nrm)) | (refine opsY_unwanted rfl rfl ?_; walk_nrm) | (refine opsY_nw rfl rfl (nw_of (by rfl)) (fun Ky hKy => ?_); go_simp; refine hKy _ _ ⟨rfl, fun Kx => ?_⟩; clear Kx hKy Ky)))
      (refine opsY_callTo (cmade_yes h') rfl rfl rfl (by first | rfl | (simp [Act.eval]; done) | (simp [Act.eval]; rfl) | (simp [Act.eval]; exact ⟨rfl, rfl⟩)) ?_; walk_nrm)
      repeat (first | (first | refine codeY_seq ?_ | refine codeY_block ?_ | refine codeY_ret ?_ | refine codeY_skip ?_ | refine codeY_exit ?_ | refine codeY_label ?_ | refine thenY_n ?_ | refine thenY_e ?_ | refine thenY_r ?_ | refine blockY_n ?_ | refine blockY_e ?_ | refine blockY_r ?_ | refine blockY_o rfl ?_ | refine codeY_condT rfl ?_ | refine codeY_condF rfl ?_) | (refine codeY_region_k (fun K hK => ?_); simp only [List.size_toArray, List.length_cons, List.length_nil, Nat.reduceAdd, Nat.zero_add, List.range, List.range.loop]) | (refine opsY_nil ?_; refine hK _ _ _ _ ?_; clear hK K) | (first | (first | (refine opsY_move rfl rfl ?_; walk_nrm) | (refine opsY_assign rfl rfl ?_; walk_nrm)) | (refine opsY_unwanted rfl rfl ?_; walk_nrm) | (refine opsY_nw rfl rfl (nw_of (by rfl)) (fun Ky hKy => ?_); go_simp; refine hKy _ _ ⟨rfl, fun Kx => ?_⟩; clear Kx hKy Ky)))
      (refine opsY_store2 rfl rfl rfl rfl (by kernel_rfl) rfl rfl e0 e1 ez (fun o => hs _) ?_; walk_nrm)
      rw [set_self e0, set_self e1]
      repeat (first | (first | refine codeY_seq ?_ | refine codeY_block ?_ | refine codeY_ret ?_ | refine codeY_skip ?_ | refine codeY_exit ?_ | refine codeY_label ?_ | refine thenY_n ?_ | refine thenY_e ?_ | refine thenY_r ?_ | refine blockY_n ?_ | refine blockY_e ?_ | refine blockY_r ?_ | refine blockY_o rfl ?_ | refine codeY_condT rfl ?_ | refine codeY_condF rfl ?_) | (refine codeY_region_k (fun K hK => ?_); simp only [List.size_toArray, List.length_cons, List.length_nil, Nat.reduceAdd, Nat.zero_add, List.range, List.range.loop]) | (refine opsY_nil ?_; refine hK _ _ _ _ ?_; clear hK K) | (first | (first | (refine opsY_move rfl rfl ?_; walk_nrm) | (refine opsY_assign rfl rfl ?_; walk_nrm)) | (refine opsY_unwanted rfl rfl ?_; walk_nrm) | (refine opsY_nw rfl rfl (nw_of (by rfl)) (fun Ky hKy => ?_); go_simp; refine hKy _ _ ⟨rfl, fun Kx => ?_⟩; clear Kx hKy Ky)))
      (first | refine bodyY_ret rfl (results_ct Try.results25 rfl (by go_simp; try rfl) (by go_simp; try rfl) e0 e1) ?_ | refine bodyY_end rfl (results_ct Try.results25 rfl (by go_simp; try rfl) (by go_simp; try rfl) e0 e1) ?_)
      exact ⟨rfl, rfl, hc⟩
    · have h3 : f = .nilFunc := by rcases hd with h | h | h; exact absurd h h1; exact absurd h h2; exact h
      subst h3
      refine callR_of Try.func25 (by kernel_rfl) rfl ?_; simp only [Try.ntmps25, List.size_toArray, List.length_cons, List.length_nil, Nat.reduceAdd, Nat.reduceSub, Array.replicate_succ, Array.replicate_zero, List.push_toArray, List.append_toArray, List.nil_append, List.cons_append]
      repeat (first | (first | refine codeY_seq ?_ | refine codeY_block ?_ | refine codeY_ret ?_ | refine codeY_skip ?_ | refine codeY_exit ?_ | refine codeY_label ?_ | refine thenY_n ?_ | refine thenY_e ?_ | refine thenY_r ?_ | refine blockY_n ?_ | refine blockY_e ?_ | refine blockY_r ?_ | refine blockY_o rfl ?_ | refine codeY_condT rfl ?_ | refine codeY_condF rfl ?_) | (refine codeY_region_k (fun K hK => ?_); simp only [List.size_toArray, List.length_cons, List.length_nil, Nat.reduceAdd, Nat.zero_add, List.range, List.range.loop]) | (refine opsY_nil ?_; refine hK _ _ _ _ ?_; clear hK K) | (first | (first | (refine opsY_move rfl rfl ?_; walk_nrm) | (refine opsY_assign rfl rfl ?_; walk_nrm)) | (refine opsY_unwanted rfl rfl ?_; walk_nrm) | (refine opsY_nw rfl rfl (nw_of (by rfl)) (fun Ky hKy => ?_); go_simp; refine hKy _ _ ⟨rfl, fun Kx => ?_⟩; clear Kx hKy Ky)))
      (refine opsY_callTo (cmade_yes h') rfl rfl rfl (by first | rfl | (simp [Act.eval]; done) | (simp [Act.eval]; rfl) | (simp [Act.eval]; exact ⟨rfl, rfl⟩)) ?_; walk_nrm)
      repeat (first | (first | refine codeY_seq ?_ | refine codeY_block ?_ | refine codeY_ret ?_ | refine codeY_skip ?_ | refine codeY_exit ?_ | refine codeY_label ?_ | refine thenY_n ?_ | refine thenY_e ?_ | refine thenY_r ?_ | refine blockY_n ?_ | refine blockY_e ?_ | refine blockY_r ?_ | refine blockY_o rfl ?_ | refine codeY_condT rfl ?_ | refine codeY_condF rfl ?_) | (refine codeY_region_k (fun K hK => ?_); simp only [List.size_toArray, List.length_cons, List.length_nil, Nat.reduceAdd, Nat.zero_add, List.range, List.range.loop]) | (refine opsY_nil ?_; refine hK _ _ _ _ ?_; clear hK K) | (first | (first | (refine opsY_move rfl rfl ?_; walk_nrm) | (refine opsY_assign rfl rfl ?_; walk_nrm)) | (refine opsY_unwanted rfl rfl ?_; walk_nrm) | (refine opsY_nw rfl rfl (nw_of (by rfl)) (fun Ky hKy => ?_); go_simp; refine hKy _ _ ⟨rfl, fun Kx => ?_⟩; clear Kx hKy Ky)))
      (refine opsY_store2 rfl rfl rfl rfl (by kernel_rfl) rfl rfl e0 e1 ez (fun o => hs _) ?_; walk_nrm)
      rw [set_self e0, set_self e1]
      repeat (first | (first | refine codeY_seq ?_ | refine codeY_block ?_ | refine codeY_ret ?_ | refine codeY_skip ?_ | refine codeY_exit ?_ | refine codeY_label ?_ | refine thenY_n ?_ | refine thenY_e ?_ | refine thenY_r ?_ | refine blockY_n ?_ | refine blockY_e ?_ | refine blockY_r ?_ | refine blockY_o rfl ?_ | refine codeY_condT rfl ?_ | refine codeY_condF rfl ?_) | (refine codeY_region_k (fun K hK => ?_); simp only [List.size_toArray, List.length_cons, List.length_nil, Nat.reduceAdd, Nat.zero_add, List.range, List.range.loop]) | (refine opsY_nil ?_; refine hK _ _ _ _ ?_; clear hK K) | (first | (first | (refine opsY_move rfl rfl ?_; walk_nrm) | (refine opsY_assign rfl rfl ?_; walk_nrm)) | (refine opsY_unwanted rfl rfl ?_; walk_nrm) | (refine opsY_nw rfl rfl (nw_of (by rfl)) (fun Ky hKy => ?_); go_simp; refine hKy _ _ ⟨rfl, fun Kx => ?_⟩; clear Kx hKy Ky)))
      (first | refine bodyY_ret rfl (results_ct Try.results25 rfl (by go_simp; try rfl) (by go_simp; try rfl) e0 e1) ?_ | refine bodyY_end rfl (results_ct Try.results25 rfl (by go_simp; try rfl) (by go_simp; try rfl) e0 e1) ?_)
      exact ⟨rfl, rfl, hc⟩
end Go.Proofs.Ythnfheohfnhcpaa.Y
