/- The clock: Set, a slot found. -/
import Derived.Test.YthnfheohfnhcpaaChg
import Derived.Test.YthnfheohfnhcpaaCls
import Derived.Test.YthnfheohfnhcpaaDrw
import Derived.Test.YthnfheohfnhcpaaProg
import Derived.WalkKit
set_option linter.unusedSimpArgs false
set_option linter.unusedVariables false
set_option maxRecDepth 20000
set_option maxHeartbeats 4000000
namespace Go.Proofs.Ythnfheohfnhcpaa.Y
open Go Go.Conc Go.Proofs
variable {S : Type} {E : Eng Try.prog S}






theorem set_is {σ : S} {w : World} {b i : Nat} {now busy : Int} {st due : Nat → Int} {fs : Nat → Value} (d : Int) {fn : Fn} {f1 f2 : Array Value} (hL : Lone E σ) (hC : Clk w b now busy st due fs) (hd0 : 0 ≤ d) (hd1 : d ≤ 4611686018427387904)
    (hi : i < 16) (hfree : (st i).tmod 4 = 0) (h0 : 0 ≤ st i) (h1 : st i ≤ 4611686018427387904) (hbusy : ∀ j, j < i → (st j).tmod 4 ≠ 0) :
    CallR E 25 #[.pointer (some ⟨b + 2, 0, none⟩), .pointer none, .int .i64 d, .func fn f1 f2] σ w (fun σ' v w' => σ' = σ ∧ v = .tuple #[.agg #[.int .i64 i, .int .i64 (st i + 2)], .int .i64 0] ∧ Clk w' b now busy (up st i (st i + 2)) (up due i d) (up fs i (.func fn f1 f2)) ∧ Chg (InClk b) w w') := by
  have hs := hL.no
  obtain ⟨e0, e1, ez⟩ := two_alloc w (.int .i64 0) (.int .i64 0) 32
  have hlt2 := hC.lt (x := b + 2) ⟨by omega, by omega⟩
  have hlt35 := (hC.due 15 (by omega)).lt
  have hc : Chg (InClk b) w (w.alloc (.cells #[.int .i64 0, .int .i64 0] 32 (0, 0))) := (Chg.refl _ w).alloc _
  have hC1 : Clk (w.alloc (.cells #[.int .i64 0, .int .i64 0] 32 (0, 0))) b now busy st due fs := hC.kept (T := fun _ => False) ((Chg.refl _ w).alloc _) (fun _ _ x => x)
  have hx1 : ¬ d < 0 := by omega
  have hx2 : ¬ d > 4611686018427387904 := by omega
  have hcn := hC1.cnow
  refine callR_of Try.func25 (by kernel_rfl) rfl ?_; simp only [Try.ntmps25, List.size_toArray, List.length_cons, List.length_nil, Nat.reduceAdd, Nat.reduceSub, Array.replicate_succ, Array.replicate_zero, List.push_toArray, List.append_toArray, List.nil_append, List.cons_append]
  repeat (first | (first | refine codeY_seq ?_ | refine codeY_block ?_ | refine codeY_ret ?_ | refine codeY_skip ?_ | refine codeY_exit ?_ | refine codeY_label ?_ | refine thenY_n ?_ | refine thenY_e ?_ | refine thenY_r ?_ | refine blockY_n ?_ | refine blockY_e ?_ | refine blockY_r ?_ | refine blockY_o rfl ?_ | refine codeY_condT rfl ?_ | refine codeY_condF rfl ?_) | (refine codeY_region_k (fun K hK => ?_); simp only [List.size_toArray, List.length_cons, List.length_nil, Nat.reduceAdd, Nat.zero_add, List.range, List.range.loop]) | (refine opsY_nil ?_; refine hK _ _ _ _ ?_; clear hK K) | (first | (first | (refine opsY_move rfl rfl ?_; walk_nrm) | (refine opsY_assign rfl rfl ?_; walk_nrm)) | (refine opsY_unwanted rfl rfl ?_; walk_nrm) | (refine opsY_nw rfl rfl (nw_of (by rfl)) (fun Ky hKy => ?_); go_simp; refine hKy _ _ ⟨rfl, fun Kx => ?_⟩; clear Kx hKy Ky)))
  (refine opsY_callTo (cmade_yes hcn) rfl rfl rfl (by first | rfl | (simp [Act.eval]; done) | (simp [Act.eval]; rfl) | (simp [Act.eval]; exact ⟨rfl, rfl⟩)) ?_; walk_nrm)
  repeat (first | (first | refine codeY_seq ?_ | refine codeY_block ?_ | refine codeY_ret ?_ | refine codeY_skip ?_ | refine codeY_exit ?_ | refine codeY_label ?_ | refine thenY_n ?_ | refine thenY_e ?_ | refine thenY_r ?_ | refine blockY_n ?_ | refine blockY_e ?_ | refine blockY_r ?_ | refine blockY_o rfl ?_ | refine codeY_condT rfl ?_ | refine codeY_condF rfl ?_) | (refine codeY_region_k (fun K hK => ?_); simp only [List.size_toArray, List.length_cons, List.length_nil, Nat.reduceAdd, Nat.zero_add, List.range, List.range.loop]) | (refine opsY_nil ?_; refine hK _ _ _ _ ?_; clear hK K) | (first | (first | (refine opsY_move rfl rfl ?_; walk_nrm) | (refine opsY_assign rfl rfl ?_; walk_nrm)) | (refine opsY_unwanted rfl rfl ?_; walk_nrm) | (refine opsY_nw rfl rfl (nw_of (by rfl)) (fun Ky hKy => ?_); go_simp; refine hKy _ _ ⟨rfl, fun Kx => ?_⟩; clear Kx hKy Ky)))
  revert e0 e1 ez hc hC1
  generalize hw1 : w.alloc (.cells #[.int .i64 0, .int .i64 0] 32) = w1
  intro e0 e1 ez hc hC1
  refine codeY_loop (fun s a u => s = σ ∧ u = w1 ∧ ∃ n : Nat, n ≤ i ∧ ∃ jk : Nat → Value, a = (⟨#[.pointer (some ⟨b + 2, 0, none⟩), .pointer none, .int .i64 d, .func fn f1 f2, jk 4, jk 5, jk 6, jk 7, .pointer (some ⟨w.heap.size, 0, none⟩), jk 9, jk 10, jk 11, jk 12, jk 13, jk 14, jk 15, jk 16, jk 17, jk 18, jk 19, jk 20, jk 21, jk 22, jk 23, jk 24, jk 25, jk 26, jk 27, .int .i64 n, jk 29, jk 30, jk 31, jk 32, jk 33, jk 34, jk 35, jk 36, jk 37, jk 38, jk 39, jk 40, jk 41, jk 42, jk 43, jk 44, jk 45, jk 46, jk 47, jk 48, jk 49, jk 50, jk 51, jk 52, jk 53, jk 54, jk 55, jk 56, jk 57, jk 58, jk 59, jk 60, jk 61, jk 62, jk 63, jk 64, jk 65, jk 66, jk 67, jk 68, jk 69, jk 70, jk 71, jk 72, jk 73, jk 74, jk 75, jk 76, jk 77, jk 78, jk 79, jk 80, jk 81], []⟩ : Act)) (fun _ a _ => match a.tmps.getD 28 undef with | .int _ x => (16 - x).toNat | _ => 0) ⟨rfl, rfl, 0, by omega, junk_intro _ rfl⟩ ?_
  rintro σ' a' u ⟨rfl, rfl, n, hn, jk, rfl⟩
  have hlt : (n : Int) < 16 := by omega
  have hn0 : (0 : Int) ≤ n := by omega
  have hst := hC1.cst n (by omega)
  have hdu := hC1.cdue n (by omega)
  have hld := hC1.st n (by omega)
  repeat (first | (first | refine codeY_seq ?_ | refine codeY_block ?_ | refine codeY_ret ?_ | refine codeY_skip ?_ | refine codeY_exit ?_ | refine codeY_label ?_ | refine thenY_n ?_ | refine thenY_e ?_ | refine thenY_r ?_ | refine blockY_n ?_ | refine blockY_e ?_ | refine blockY_r ?_ | refine blockY_o rfl ?_ | refine codeY_condT rfl ?_ | refine codeY_condF rfl ?_) | (refine codeY_region_k (fun K hK => ?_); simp only [List.size_toArray, List.length_cons, List.length_nil, Nat.reduceAdd, Nat.zero_add, List.range, List.range.loop]) | (refine opsY_nil ?_; refine hK _ _ _ _ ?_; clear hK K) | (first | (first | (refine opsY_move rfl rfl ?_; walk_nrm) | (refine opsY_assign rfl rfl ?_; walk_nrm)) | (refine opsY_unwanted rfl rfl ?_; walk_nrm) | (refine opsY_nw rfl rfl (nw_of (by rfl)) (fun Ky hKy => ?_); go_simp; refine hKy _ _ ⟨rfl, fun Kx => ?_⟩; clear Kx hKy Ky)))
  (refine opsY_callTo (load_nil hld) rfl rfl rfl (by first | rfl | (simp [Act.eval]; done) | (simp [Act.eval]; rfl) | (simp [Act.eval]; exact ⟨rfl, rfl⟩)) ?_; walk_nrm)
  by_cases hni : n = i
  · subst hni
    have hw1x := wrap64 (x := st n + 1) (by omega) (by omega)
    have hw2x := wrap64 (x := st n + 2) (by omega) (by omega)
    have hfn := hC1.cf n hi
    repeat (first | (first | refine codeY_seq ?_ | refine codeY_block ?_ | refine codeY_ret ?_ | refine codeY_skip ?_ | refine codeY_exit ?_ | refine codeY_label ?_ | refine thenY_n ?_ | refine thenY_e ?_ | refine thenY_r ?_ | refine blockY_n ?_ | refine blockY_e ?_ | refine blockY_r ?_ | refine blockY_o rfl ?_ | refine codeY_condT rfl ?_ | refine codeY_condF rfl ?_) | (refine codeY_region_k (fun K hK => ?_); simp only [List.size_toArray, List.length_cons, List.length_nil, Nat.reduceAdd, Nat.zero_add, List.range, List.range.loop]) | (refine opsY_nil ?_; refine hK _ _ _ _ ?_; clear hK K) | (first | (first | (refine opsY_move rfl rfl ?_; walk_nrm) | (refine opsY_assign rfl rfl ?_; walk_nrm)) | (refine opsY_unwanted rfl rfl ?_; walk_nrm) | (refine opsY_nw rfl rfl (nw_of (by rfl)) (fun Ky hKy => ?_); go_simp; refine hKy _ _ ⟨rfl, fun Kx => ?_⟩; clear Kx hKy Ky)))
    (refine opsY_callTo (cashit_nil (st n + 1) hL.may hld (fun o => hs _)) rfl rfl rfl (by first | rfl | (simp [Act.eval]; done) | (simp [Act.eval]; rfl) | (simp [Act.eval]; exact ⟨rfl, rfl⟩)) ?_; walk_nrm)
    have hC2 := hC1.setSt hi (st n + 1)
    have hc2 := hc.setCell (a := ⟨b + 3 + 2 * n, 0, none⟩) (.int .i64 (st n + 1)) (.inl ⟨by simp; omega, by simp; omega⟩)
    have e0' : (u.setCell ⟨b + 3 + 2 * n, 0, none⟩ (.int .i64 (st n + 1))).cell? ⟨w.heap.size, 0, none⟩ = _ := (World.cell?_setCell_other _ _ _ _ (fun e => by have := congrArg Addr.block e; simp at this; omega)).trans e0
    have e1' : (u.setCell ⟨b + 3 + 2 * n, 0, none⟩ (.int .i64 (st n + 1))).cell? ⟨w.heap.size, 1, none⟩ = _ := (World.cell?_setCell_other _ _ _ _ (fun e => by have := congrArg Addr.block e; simp at this; omega)).trans e1
    have ez' : ∀ o, (u.setCell ⟨b + 3 + 2 * n, 0, none⟩ (.int .i64 (st n + 1))).frozen? ⟨w.heap.size, o, none⟩ = false := fun o => by rw [World.frozen?_setCell]; exact ez o
    clear e0 e1 ez hc hC1 hst hdu hld hfn
    revert e0' e1' ez' hc2 hC2
    generalize u.setCell ⟨b + 3 + 2 * n, 0, none⟩ (.int .i64 (st n + 1)) = u2
    intro hC2 hc2 e0 e1 ez
    have hst := hC2.cst n (by omega)
    have hdu := hC2.cdue n (by omega)
    have hfn := hC2.cf n hi
    have hzf := hC2.cz (2 + n * 3 + 2)
    repeat (first | (first | refine codeY_seq ?_ | refine codeY_block ?_ | refine codeY_ret ?_ | refine codeY_skip ?_ | refine codeY_exit ?_ | refine codeY_label ?_ | refine thenY_n ?_ | refine thenY_e ?_ | refine thenY_r ?_ | refine blockY_n ?_ | refine blockY_e ?_ | refine blockY_r ?_ | refine blockY_o rfl ?_ | refine codeY_condT rfl ?_ | refine codeY_condF rfl ?_) | (refine codeY_region_k (fun K hK => ?_); simp only [List.size_toArray, List.length_cons, List.length_nil, Nat.reduceAdd, Nat.zero_add, List.range, List.range.loop]) | (refine opsY_nil ?_; refine hK _ _ _ _ ?_; clear hK K) | (first | (first | (refine opsY_move rfl rfl ?_; walk_nrm) | (refine opsY_assign rfl rfl ?_; walk_nrm)) | (refine opsY_unwanted rfl rfl ?_; walk_nrm) | (refine opsY_nw rfl rfl (nw_of (by rfl)) (fun Ky hKy => ?_); go_simp; refine hKy _ _ ⟨rfl, fun Kx => ?_⟩; clear Kx hKy Ky)))
    (refine opsY_store1 rfl rfl (by kernel_rfl) rfl rfl rfl rfl hfn hzf (hs _) ?_; walk_nrm)
    have hC3 := hC2.setF hi (.func fn f1 f2)
    have hc3 := hc2.setCell (a := ⟨b + 2, 2 + n * 3 + 2, none⟩) (.func fn f1 f2) (.inl ⟨by simp, by simp⟩)
    have e0' : (u2.setCell ⟨b + 2, 2 + n * 3 + 2, none⟩ (.func fn f1 f2)).cell? ⟨w.heap.size, 0, none⟩ = _ := (World.cell?_setCell_other _ _ _ _ (fun e => by have := congrArg Addr.block e; simp at this; omega)).trans e0
    have e1' : (u2.setCell ⟨b + 2, 2 + n * 3 + 2, none⟩ (.func fn f1 f2)).cell? ⟨w.heap.size, 1, none⟩ = _ := (World.cell?_setCell_other _ _ _ _ (fun e => by have := congrArg Addr.block e; simp at this; omega)).trans e1
    have ez' : ∀ o, (u2.setCell ⟨b + 2, 2 + n * 3 + 2, none⟩ (.func fn f1 f2)).frozen? ⟨w.heap.size, o, none⟩ = false := fun o => by rw [World.frozen?_setCell]; exact ez o
    clear e0 e1 ez hc2 hC2 hst hdu hfn hzf
    revert e0' e1' ez' hc3 hC3
    generalize u2.setCell ⟨b + 2, 2 + n * 3 + 2, none⟩ (.func fn f1 f2) = u3
    intro hC3 hc3 e0 e1 ez
    have hst := hC3.cst n (by omega)
    have hdu := hC3.cdue n (by omega)
    have hldu := hC3.due n hi
    repeat (first | (first | refine codeY_seq ?_ | refine codeY_block ?_ | refine codeY_ret ?_ | refine codeY_skip ?_ | refine codeY_exit ?_ | refine codeY_label ?_ | refine thenY_n ?_ | refine thenY_e ?_ | refine thenY_r ?_ | refine blockY_n ?_ | refine blockY_e ?_ | refine blockY_r ?_ | refine blockY_o rfl ?_ | refine codeY_condT rfl ?_ | refine codeY_condF rfl ?_) | (refine codeY_region_k (fun K hK => ?_); simp only [List.size_toArray, List.length_cons, List.length_nil, Nat.reduceAdd, Nat.zero_add, List.range, List.range.loop]) | (refine opsY_nil ?_; refine hK _ _ _ _ ?_; clear hK K) | (first | (first | (refine opsY_move rfl rfl ?_; walk_nrm) | (refine opsY_assign rfl rfl ?_; walk_nrm)) | (refine opsY_unwanted rfl rfl ?_; walk_nrm) | (refine opsY_nw rfl rfl (nw_of (by rfl)) (fun Ky hKy => ?_); go_simp; refine hKy _ _ ⟨rfl, fun Kx => ?_⟩; clear Kx hKy Ky)))
    (refine opsY_callTo (store_nil d hL.may hldu (fun o => hs _)) rfl rfl rfl (by first | rfl | (simp [Act.eval]; done) | (simp [Act.eval]; rfl) | (simp [Act.eval]; exact ⟨rfl, rfl⟩)) ?_; walk_nrm)
    have hC4 := hC3.setDue hi d
    have hc4 := hc3.setCell (a := ⟨b + 4 + 2 * n, 0, none⟩) (.int .i64 d) (.inl ⟨by simp; omega, by simp; omega⟩)
    have e0' : (u3.setCell ⟨b + 4 + 2 * n, 0, none⟩ (.int .i64 d)).cell? ⟨w.heap.size, 0, none⟩ = _ := (World.cell?_setCell_other _ _ _ _ (fun e => by have := congrArg Addr.block e; simp at this; omega)).trans e0
    have e1' : (u3.setCell ⟨b + 4 + 2 * n, 0, none⟩ (.int .i64 d)).cell? ⟨w.heap.size, 1, none⟩ = _ := (World.cell?_setCell_other _ _ _ _ (fun e => by have := congrArg Addr.block e; simp at this; omega)).trans e1
    have ez' : ∀ o, (u3.setCell ⟨b + 4 + 2 * n, 0, none⟩ (.int .i64 d)).frozen? ⟨w.heap.size, o, none⟩ = false := fun o => by rw [World.frozen?_setCell]; exact ez o
    clear e0 e1 ez hc3 hC3 hst hdu hldu
    revert e0' e1' ez' hc4 hC4
    generalize u3.setCell ⟨b + 4 + 2 * n, 0, none⟩ (.int .i64 d) = u4
    intro hC4 hc4 e0 e1 ez
    have hst := hC4.cst n (by omega)
    have hld := hC4.st n hi
    repeat (first | (first | refine codeY_seq ?_ | refine codeY_block ?_ | refine codeY_ret ?_ | refine codeY_skip ?_ | refine codeY_exit ?_ | refine codeY_label ?_ | refine thenY_n ?_ | refine thenY_e ?_ | refine thenY_r ?_ | refine blockY_n ?_ | refine blockY_e ?_ | refine blockY_r ?_ | refine blockY_o rfl ?_ | refine codeY_condT rfl ?_ | refine codeY_condF rfl ?_) | (refine codeY_region_k (fun K hK => ?_); simp only [List.size_toArray, List.length_cons, List.length_nil, Nat.reduceAdd, Nat.zero_add, List.range, List.range.loop]) | (refine opsY_nil ?_; refine hK _ _ _ _ ?_; clear hK K) | (first | (first | (refine opsY_move rfl rfl ?_; walk_nrm) | (refine opsY_assign rfl rfl ?_; walk_nrm)) | (refine opsY_unwanted rfl rfl ?_; walk_nrm) | (refine opsY_nw rfl rfl (nw_of (by rfl)) (fun Ky hKy => ?_); go_simp; refine hKy _ _ ⟨rfl, fun Kx => ?_⟩; clear Kx hKy Ky)))
    (refine opsY_callTo (store_nil (st n + 2) hL.may hld (fun o => hs _)) rfl rfl rfl (by first | rfl | (simp [Act.eval]; done) | (simp [Act.eval]; rfl) | (simp [Act.eval]; exact ⟨rfl, rfl⟩)) ?_; walk_nrm)
    have hC5 := hC4.setSt hi (st n + 2)
    have hc5 := hc4.setCell (a := ⟨b + 3 + 2 * n, 0, none⟩) (.int .i64 (st n + 2)) (.inl ⟨by simp; omega, by simp; omega⟩)
    have e0' : (u4.setCell ⟨b + 3 + 2 * n, 0, none⟩ (.int .i64 (st n + 2))).cell? ⟨w.heap.size, 0, none⟩ = _ := (World.cell?_setCell_other _ _ _ _ (fun e => by have := congrArg Addr.block e; simp at this; omega)).trans e0
    have e1' : (u4.setCell ⟨b + 3 + 2 * n, 0, none⟩ (.int .i64 (st n + 2))).cell? ⟨w.heap.size, 1, none⟩ = _ := (World.cell?_setCell_other _ _ _ _ (fun e => by have := congrArg Addr.block e; simp at this; omega)).trans e1
    have ez' : ∀ o, (u4.setCell ⟨b + 3 + 2 * n, 0, none⟩ (.int .i64 (st n + 2))).frozen? ⟨w.heap.size, o, none⟩ = false := fun o => by rw [World.frozen?_setCell]; exact ez o
    have hup : up (up st n (st n + 1)) n (st n + 2) = up st n (st n + 2) := by funext j; simp only [up]; split <;> rfl
    rw [hup] at hC5
    clear e0 e1 ez hc4 hC4 hst hld
    revert e0' e1' ez' hc5 hC5
    generalize u4.setCell ⟨b + 3 + 2 * n, 0, none⟩ (.int .i64 (st n + 2)) = u5
    intro hC5 hc5 e0 e1 ez
    repeat (first | (first | refine codeY_seq ?_ | refine codeY_block ?_ | refine codeY_ret ?_ | refine codeY_skip ?_ | refine codeY_exit ?_ | refine codeY_label ?_ | refine thenY_n ?_ | refine thenY_e ?_ | refine thenY_r ?_ | refine blockY_n ?_ | refine blockY_e ?_ | refine blockY_r ?_ | refine blockY_o rfl ?_ | refine codeY_condT rfl ?_ | refine codeY_condF rfl ?_) | (refine codeY_region_k (fun K hK => ?_); simp only [List.size_toArray, List.length_cons, List.length_nil, Nat.reduceAdd, Nat.zero_add, List.range, List.range.loop]) | (refine opsY_nil ?_; refine hK _ _ _ _ ?_; clear hK K) | (first | (first | (refine opsY_move rfl rfl ?_; walk_nrm) | (refine opsY_assign rfl rfl ?_; walk_nrm)) | (refine opsY_unwanted rfl rfl ?_; walk_nrm) | (refine opsY_nw rfl rfl (nw_of (by rfl)) (fun Ky hKy => ?_); go_simp; refine hKy _ _ ⟨rfl, fun Kx => ?_⟩; clear Kx hKy Ky)))
    (refine opsY_store2 rfl rfl rfl rfl (by kernel_rfl) rfl rfl e0 e1 ez (fun o => hs _) ?_; walk_nrm)
    have f0 : ((u5.setCell ⟨w.heap.size, 0, none⟩ (.int .i64 n)).setCell ⟨w.heap.size, 0 + 1, none⟩ (.int .i64 (st n + 2))).cell? ⟨w.heap.size, 0, none⟩ = some (.int .i64 n) := by rw [World.cell?_setCell_other _ _ _ _ (by simp)]; exact at_of e0
    have f1 : ((u5.setCell ⟨w.heap.size, 0, none⟩ (.int .i64 n)).setCell ⟨w.heap.size, 0 + 1, none⟩ (.int .i64 (st n + 2))).cell? ⟨w.heap.size, 1, none⟩ = some (.int .i64 (st n + 2)) := at_of (by rw [World.cell?_setCell_other _ _ _ _ (by simp)]; exact e1)
    have hC6 := (hC5.other (a := ⟨w.heap.size, 0, none⟩) (.int .i64 n) (fun h => by have := h.2; simp at this; omega)).other (a := ⟨w.heap.size, 0 + 1, none⟩) (.int .i64 (st n + 2)) (fun h => by have := h.2; simp at this; omega)
    have hc6 := (hc5.setCell (a := ⟨w.heap.size, 0, none⟩) (.int .i64 n) (.inr (by simp))).setCell (a := ⟨w.heap.size, 0 + 1, none⟩) (.int .i64 (st n + 2)) (.inr (by simp))
    revert f0 f1 hC6 hc6
    generalize (World.setCell (World.setCell _ _ _) _ _) = u6
    intro f0 f1 hC6 hc6
    repeat (first | (first | refine codeY_seq ?_ | refine codeY_block ?_ | refine codeY_ret ?_ | refine codeY_skip ?_ | refine codeY_exit ?_ | refine codeY_label ?_ | refine thenY_n ?_ | refine thenY_e ?_ | refine thenY_r ?_ | refine blockY_n ?_ | refine blockY_e ?_ | refine blockY_r ?_ | refine blockY_o rfl ?_ | refine codeY_condT rfl ?_ | refine codeY_condF rfl ?_) | (refine codeY_region_k (fun K hK => ?_); simp only [List.size_toArray, List.length_cons, List.length_nil, Nat.reduceAdd, Nat.zero_add, List.range, List.range.loop]) | (refine opsY_nil ?_; refine hK _ _ _ _ ?_; clear hK K) | (first | (first | (refine opsY_move rfl rfl ?_; walk_nrm) | (refine opsY_assign rfl rfl ?_; walk_nrm)) | (refine opsY_unwanted rfl rfl ?_; walk_nrm) | (refine opsY_nw rfl rfl (nw_of (by rfl)) (fun Ky hKy => ?_); go_simp; refine hKy _ _ ⟨rfl, fun Kx => ?_⟩; clear Kx hKy Ky)))
    (first | refine bodyY_ret rfl (results_ct Try.results25 rfl (by go_simp; try rfl) (by go_simp; try rfl) f0 f1) ?_ | refine bodyY_end rfl (results_ct Try.results25 rfl (by go_simp; try rfl) (by go_simp; try rfl) f0 f1) ?_)
    exact ⟨rfl, rfl, hC6, hc6⟩
  · have hb : ((st n).tmod 4 != 0) = true := by simpa using hbusy n (by omega)
    have hwn := wrap64 (x := (n : Int) + 1) (by omega) (by omega)
    repeat (first | (first | refine codeY_seq ?_ | refine codeY_block ?_ | refine codeY_ret ?_ | refine codeY_skip ?_ | refine codeY_exit ?_ | refine codeY_label ?_ | refine thenY_n ?_ | refine thenY_e ?_ | refine thenY_r ?_ | refine blockY_n ?_ | refine blockY_e ?_ | refine blockY_r ?_ | refine blockY_o rfl ?_ | refine codeY_condT rfl ?_ | refine codeY_condF rfl ?_) | (refine codeY_region_k (fun K hK => ?_); simp only [List.size_toArray, List.length_cons, List.length_nil, Nat.reduceAdd, Nat.zero_add, List.range, List.range.loop]) | (refine opsY_nil ?_; refine hK _ _ _ _ ?_; clear hK K) | (first | (first | (refine opsY_move rfl rfl ?_; walk_nrm) | (refine opsY_assign rfl rfl ?_; walk_nrm)) | (refine opsY_unwanted rfl rfl ?_; walk_nrm) | (refine opsY_nw rfl rfl (nw_of (by rfl)) (fun Ky hKy => ?_); go_simp; refine hKy _ _ ⟨rfl, fun Kx => ?_⟩; clear Kx hKy Ky)))
    refine ⟨⟨rfl, rfl, n + 1, by omega, junk_intro _ rfl⟩, ?_⟩
    show (16 - ((n : Int) + 1)).toNat < (16 - (n : Int)).toNat
    omega
end Go.Proofs.Ythnfheohfnhcpaa.Y
