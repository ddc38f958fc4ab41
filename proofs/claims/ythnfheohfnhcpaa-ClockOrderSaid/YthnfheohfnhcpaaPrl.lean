/- The levels that age: the laws of their making. -/
import Derived.Test.YthnfheohfnhcpaaPra
import Derived.Test.YthnfheohfnhcpaaNap
set_option linter.unusedSimpArgs false
set_option linter.unusedVariables false
set_option maxRecDepth 20000
set_option maxHeartbeats 4000000
namespace Go.Proofs.Ythnfheohfnhcpaa.Y
open Go Go.Conc Go.Proofs
variable {S : Type} {E : Eng Try.prog S}

theorem typed_ne {w : World} {b b' : Nat} {c c' : Array Value} {e e' : TypeId} {f f' : Nat × Nat} (h : w.heap[b]? = some (.cells c e f)) (h' : w.heap[b']? = some (.cells c' e' f')) (he : e ≠ e') : b ≠ b' := fun x => by
  subst x; rw [h] at h'; simp only [Option.some.injEq, Obj.cells.injEq] at h'; exact he h'.2.1
def ptrs (cb : Nat → Nat) (c n : Nat) : List Value := (List.range n).map fun k => .pointer (some ⟨cb (c + k), 0, none⟩)
/-- A level in the making: so many places. -/
structure Lev (w : World) (base : Nat) (cb : Nat → Nat) (c0 lb : Nat) (pv : Value) (j : Nat) : Prop where
  obj : w.heap[lb]? = some (.cells #[.pointer (some ⟨cb c0, 0, none⟩), .pointer (some ⟨cb (c0 + 1), 0, none⟩), pv] 259 (0, 0))
  row : w.ownsRow base 261 3 pv j (ptrs cb (c0 + 2) (j * 3))
def ival (room k : Nat) : Int := if k = 0 then 0 else if (k - 1) % (2 + 3 * room) < 2 then 0 else if ((k - 1) % (2 + 3 * room) - 2) % 3 = 0 then (((k - 1) % (2 + 3 * room) - 2) / 3 : Nat) else 0
def cinR (room i : Nat) : Nat := 1 + i * (2 + 3 * room)
/-- .. so many levels, all that is theirs below m. -/
structure Pri (w : World) (base m room i p : Nat) (cb lb : Nat → Nat) (pv : Nat → Value) (lv : Value) : Prop where
  obj : w.heap[p]? = some (.cells #[.pointer (some ⟨cb 0, 0, none⟩), lv] 220 (0, 0))
  row : w.ownsRow base 256 1 lv i (ptrs lb 0 i)
  lev : ∀ k, k < i → Lev w base cb (cinR room k) (lb k) (pv k) room
  n : Nums w cb (cinR room i) (ival room)
  l0 : p < m
  l1 : ∀ g, lv.ownBlock = some g → g < m
  l2 : ∀ k, k < i → lb k < m ∧ ∀ g, (pv k).ownBlock = some g → g < m
  l3 : ∀ k, k < cinR room i → cb k < m
theorem Lev.kept {w w' : World} {base : Nat} {cb : Nat → Nat} {c0 lb : Nat} {pv : Value} {j : Nat} {T : Nat → Prop} (h : Lev w base cb c0 lb pv j) (c : Chg T w w') (h1 : ¬ T lb) (h2 : ∀ g, pv.ownBlock = some g → ¬ T g) : Lev w' base cb c0 lb pv j :=
  ⟨(c.keep lb (Array.getElem?_eq_some_iff.1 h.obj).1 h1).trans h.obj, own_chg h.row c h2⟩
theorem Lev.congr {w : World} {base : Nat} {cb cb' : Nat → Nat} {c0 lb : Nat} {pv : Value} {j : Nat} (h : Lev w base cb c0 lb pv j) (hc : ∀ k, k < c0 + 2 + j * 3 → cb' k = cb k) : Lev w base cb' c0 lb pv j := by
  refine ⟨by rw [hc c0 (by omega), hc (c0 + 1) (by omega)]; exact h.obj, ?_⟩
  have : ptrs cb' (c0 + 2) (j * 3) = ptrs cb (c0 + 2) (j * 3) := by
    unfold ptrs
    apply List.map_congr_left
    intro k hk
    rw [hc _ (by have := List.mem_range.1 hk; omega)]
  rw [this]; exact h.row
theorem own_base {w : World} {b b' : Nat} {e : TypeId} {size : Nat} {v : Value} {n : Nat} {xs : List Value} (h : w.ownsRow b e size v n xs) (hb : b' ≤ b) : w.ownsRow b' e size v n xs :=
  ⟨h.1, h.2.imp id fun ⟨g, cap, cur, h1, h2, h3⟩ => ⟨g, cap, cur, h1, Nat.le_trans hb h2, h3⟩⟩
theorem own_type {w : World} {b : Nat} {e : TypeId} {size : Nat} {v : Value} {n : Nat} {xs : List Value} (h : w.ownsRow b e size v n xs) {g : Nat} (hg : v.ownBlock = some g) {x : Nat} {c : Array Value} {e' : TypeId} {f : Nat × Nat} (hx : w.heap[x]? = some (.cells c e' f)) (he : e ≠ e') : x ≠ g := by
  rcases h.2 with ⟨rfl, _⟩ | ⟨g', cap, cur, rfl, _, h3, _⟩
  · cases hg
  · simp only [Value.ownBlock, Option.some.injEq] at hg
    subst hg
    exact fun e2 => typed_ne h3 hx he e2.symm
/-- What is there stays, whatever is made behind it. -/
theorem Pri.kept {w w' : World} {base m room i p : Nat} {cb lb : Nat → Nat} {pv : Nat → Value} {lv : Value} (h : Pri w base m room i p cb lb pv lv) (c : Chg (fun b => m ≤ b) w w') : Pri w' base m room i p cb lb pv lv :=
  ⟨(c.keep p (Array.getElem?_eq_some_iff.1 h.obj).1 (fun x => by have := h.l0; omega)).trans h.obj, own_chg h.row c (fun g hg hx => by have := h.l1 g hg; omega),
    fun k hk => (h.lev k hk).kept c (fun x => by have := (h.l2 k hk).1; omega) (fun g hg hx => by have := (h.l2 k hk).2 g hg; omega), h.n.kept c (fun k hk hx => by have := h.l3 k hk; omega), h.l0, h.l1, h.l2, h.l3⟩
theorem Pri.low {w : World} {base m room i p : Nat} {cb lb : Nat → Nat} {pv : Nat → Value} {lv : Value} (h : Pri w base m room i p cb lb pv lv) : Pri w base w.heap.size room i p cb lb pv lv :=
  ⟨h.obj, h.row, h.lev, h.n, (Array.getElem?_eq_some_iff.1 h.obj).1, fun g hg => (h.row.lt g hg).2, fun k hk => ⟨(Array.getElem?_eq_some_iff.1 (h.lev k hk).obj).1, fun g hg => ((h.lev k hk).row.lt g hg).2⟩, fun k hk => h.n.lt hk⟩
theorem ptrs_more (cb : Nat → Nat) (c n : Nat) : ptrs cb c (n + 3) = ptrs cb c n ++ [.pointer (some ⟨cb (c + n), 0, none⟩), .pointer (some ⟨cb (c + (n + 1)), 0, none⟩), .pointer (some ⟨cb (c + (n + 2)), 0, none⟩)] := by
  unfold ptrs
  rw [show n + 3 = n + 1 + 1 + 1 by omega, List.range_succ, List.range_succ, List.range_succ]
  simp
theorem ptrs_one (cb : Nat → Nat) (c n : Nat) : ptrs cb c (n + 1) = ptrs cb c n ++ [.pointer (some ⟨cb (c + n), 0, none⟩)] := by
  unfold ptrs
  rw [List.range_succ]; simp
theorem ptrs_congr {cb cb' : Nat → Nat} {c n : Nat} (h : ∀ k, k < n → cb' (c + k) = cb (c + k)) : ptrs cb' c n = ptrs cb c n := by
  unfold ptrs
  apply List.map_congr_left
  intro k hk
  rw [h k (List.mem_range.1 hk)]
theorem ptrs_len (cb : Nat → Nat) (c n : Nat) : (ptrs cb c n).length = n := by simp [ptrs]
/-- How the cells' blocks go on. -/
structure CbX (c n base : Nat) (cb cb' : Nat → Nat) : Prop where
  eq : ∀ k, k < c → cb' k = cb k
  lo : ∀ k, k < n → base ≤ cb' k

theorem own_obj {w : World} {b : Nat} {e : TypeId} {size : Nat} {v : Value} {n : Nat} {xs : List Value} (h : w.ownsRow b e size v n xs) {g : Nat} (hg : v.ownBlock = some g) : ∃ c f, w.heap[g]? = some (.cells c e f) := by
  rcases h.2 with ⟨rfl, _⟩ | ⟨g', cap, cur, rfl, _, h3, _⟩
  · cases hg
  · simp only [Value.ownBlock, Option.some.injEq] at hg
    subst hg
    exact ⟨_, _, h3⟩
theorem Lev.base {w : World} {b b' : Nat} {cb : Nat → Nat} {c0 lb : Nat} {pv : Value} {j : Nat} (h : Lev w b cb c0 lb pv j) (hb : b' ≤ b) : Lev w b' cb c0 lb pv j := ⟨h.obj, own_base h.row hb⟩
def newPlace (v : World) (j : Nat) : World := (((v.alloc (cellObj j)).alloc (cellObj 0)).alloc (cellObj 0)).alloc (.cells #[.pointer (some ⟨v.heap.size, 0, none⟩), .pointer (some ⟨v.heap.size + 1, 0, none⟩), .pointer (some ⟨v.heap.size + 1 + 1, 0, none⟩)] 261)
theorem ival_at {room i j x : Nat} (hj : j < room) (hx : x < 3) : ival room (cinR room i + 2 + j * 3 + x) = if x = 0 then (j : Int) else 0 := by
  have e : (cinR room i + 2 + j * 3 + x - 1) % (2 + 3 * room) = 2 + j * 3 + x := by
    have : cinR room i + 2 + j * 3 + x - 1 = (2 + j * 3 + x) + (2 + 3 * room) * i := by unfold cinR; rw [Nat.mul_comm]; omega
    rw [this, Nat.add_mul_mod_self_left, Nat.mod_eq_of_lt (by omega)]
  unfold ival
  rw [if_neg (by unfold cinR; omega), e, if_neg (by omega)]
  by_cases h0 : x = 0
  · subst h0
    rw [if_pos (by omega), if_pos rfl]
    congr 1; omega
  · rw [if_neg (by omega), if_neg h0]
theorem lev_more {v v1 : World} {B room i j l : Nat} {cb' : Nat → Nat} {qv q' : Value} (hLv : Lev v B cb' (cinR room i) l qv j) (hN : Nums v cb' (cinR room i + 2 + j * 3) (ival room)) (hj : j < room) (hl : B ≤ l) (hBv : B ≤ v.heap.size)
    (hrow : v1.ownsRow B 261 3 q' (j + 1) (ptrs cb' (cinR room i + 2) (j * 3) ++ [.pointer (some ⟨v.heap.size, 0, none⟩), .pointer (some ⟨v.heap.size + 1, 0, none⟩), .pointer (some ⟨v.heap.size + 1 + 1, 0, none⟩)]))
    (hch : Chg (fun b => qv.ownBlock = some b) (newPlace v j) v1) :
    v1.cell? ⟨l, 2, none⟩ = some qv ∧ (∀ o, v1.frozen? ⟨l, o, none⟩ = false) ∧ Chg (fun b => B ≤ b) v (v1.setCell ⟨l, 2, none⟩ q') ∧
      ∃ cb'', (∀ k, k < cinR room i + 2 + j * 3 → cb'' k = cb' k) ∧ (∀ k, cinR room i + 2 + j * 3 ≤ k → k < cinR room i + 2 + (j + 1) * 3 → v.heap.size ≤ cb'' k) ∧
        Nums (v1.setCell ⟨l, 2, none⟩ q') cb'' (cinR room i + 2 + (j + 1) * 3) (ival room) ∧ Lev (v1.setCell ⟨l, 2, none⟩ q') B cb'' (cinR room i) l q' (j + 1) := by
  have hB := hLv.row.lt
  have hll : l < v.heap.size := (Array.getElem?_eq_some_iff.1 hLv.obj).1
  have hcn : ∀ T, Chg T v (newPlace v j) := fun T => ((((Chg.refl T v).alloc _).alloc _).alloc _).alloc _
  have hc1 : Chg (fun b => qv.ownBlock = some b) v v1 := (hcn _).trans hch (fun _ _ x => x)
  have ho1 : v1.heap[l]? = some (.cells #[.pointer (some ⟨cb' (cinR room i), 0, none⟩), .pointer (some ⟨cb' (cinR room i + 1), 0, none⟩), qv] 259 (0, 0)) :=
    (hc1.keep l hll (fun x => own_type hLv.row x hLv.obj (by decide) rfl)).trans hLv.obj
  have hN3 := (((hN.push j).push 0).push 0).more (.cells #[.pointer (some ⟨v.heap.size, 0, none⟩), .pointer (some ⟨v.heap.size + 1, 0, none⟩), .pointer (some ⟨v.heap.size + 1 + 1, 0, none⟩)] 261)
  have s1 : (v.alloc (cellObj j)).heap.size = v.heap.size + 1 := World.size_alloc _ _
  have s2 : ((v.alloc (cellObj j)).alloc (cellObj 0)).heap.size = v.heap.size + 1 + 1 := by rw [World.size_alloc, s1]
  rw [s1, s2] at hN3
  have hrow4 : (newPlace v j).ownsRow B 261 3 qv j (ptrs cb' (cinR room i + 2) (j * 3)) := own_chg hLv.row (hcn (fun _ => False)) (fun _ _ x => x)
  have hN5 : Nums v1 _ _ _ := hN3.kept hch (fun k hk x => own_type hrow4 x (hN3.cell k hk) (by decide) rfl)
  have hN6 := hN5.other (a := ⟨l, 2, none⟩) q' (fun k hk => typed_ne (hN5.cell k hk) ho1 (by decide))
  rw [show cinR room i + 2 + j * 3 + 1 + 1 + 1 = cinR room i + 2 + (j + 1) * 3 by omega] at hN6
  have ho6 := heap_setCell_cells (a := ⟨l, 2, none⟩) (v := q') ho1 rfl
  have hcs : Chg (fun b => b = l) v1 (v1.setCell ⟨l, 2, none⟩ q') := (Chg.refl _ v1).setCell (a := ⟨l, 2, none⟩) _ (.inl rfl)
  have hrow6 := own_chg hrow hcs (fun g hg x => by subst x; exact own_type hrow hg ho1 (by decide) rfl)
  refine ⟨by unfold World.cell?; simp only; rw [ho1]; rfl, fun o => by unfold World.frozen?; simp only; rw [ho1]; simp, (hc1.mono (T' := fun b => B ≤ b) (fun b _ hx => (hB b hx).1)).setCell (a := ⟨l, 2, none⟩) q' (.inl hl), _, ?_, ?_, hN6.congr (fun _ _ => rfl) ?_, ?_, ?_⟩
  · intro k hk
    rw [upd1_ne _ _ (by omega), upd1_ne _ _ (by omega), upd1_ne _ _ (by omega)]
  · intro k h1 h2
    by_cases e2 : k = cinR room i + 2 + j * 3 + 1 + 1
    · subst e2; rw [upd1_same]; omega
    · rw [upd1_ne _ _ e2]
      by_cases e1 : k = cinR room i + 2 + j * 3 + 1
      · subst e1; rw [upd1_same]; omega
      · rw [upd1_ne _ _ e1]
        have e0 : k = cinR room i + 2 + j * 3 := by omega
        subst e0; rw [upd1_same]; omega
  · intro k hk
    by_cases e2 : k = cinR room i + 2 + j * 3 + 1 + 1
    · subst e2; rw [upd1_same]; exact ival_at (x := 2) hj (by omega)
    · rw [upd1_ne _ _ e2]
      by_cases e1 : k = cinR room i + 2 + j * 3 + 1
      · subst e1; rw [upd1_same]; exact ival_at (x := 1) hj (by omega)
      · rw [upd1_ne _ _ e1]
        by_cases e0 : k = cinR room i + 2 + j * 3
        · subst e0; rw [upd1_same]; exact ival_at (x := 0) hj (by omega)
        · rw [upd1_ne _ _ e0]
  · rw [upd1_ne _ _ (by omega), upd1_ne _ _ (by omega), upd1_ne _ _ (by omega), upd1_ne _ _ (by omega), upd1_ne _ _ (by omega), upd1_ne _ _ (by omega)]
    exact ho6
  · rw [Nat.succ_mul, ptrs_more, ptrs_congr (cb' := upd1 _ _ _) (cb := cb') (fun k hk => by rw [upd1_ne _ _ (by omega), upd1_ne _ _ (by omega), upd1_ne _ _ (by omega)])]
    have e2 : ∀ (f : Nat → Nat) x, upd1 f (cinR room i + 2 + j * 3 + 1 + 1) x (cinR room i + 2 + (j * 3 + 2)) = x := fun f x => by
      rw [show cinR room i + 2 + (j * 3 + 2) = cinR room i + 2 + j * 3 + 1 + 1 by omega, upd1_same]
    have e1 : ∀ (f : Nat → Nat) x y, upd1 (upd1 f (cinR room i + 2 + j * 3 + 1) x) (cinR room i + 2 + j * 3 + 1 + 1) y (cinR room i + 2 + (j * 3 + 1)) = x := fun f x y => by
      rw [upd1_ne _ _ (by omega), show cinR room i + 2 + (j * 3 + 1) = cinR room i + 2 + j * 3 + 1 by omega, upd1_same]
    have e0 : ∀ (f : Nat → Nat) x y z, upd1 (upd1 (upd1 f (cinR room i + 2 + j * 3) x) (cinR room i + 2 + j * 3 + 1) y) (cinR room i + 2 + j * 3 + 1 + 1) z (cinR room i + 2 + j * 3) = x := fun f x y z => by
      rw [upd1_ne _ _ (by omega), upd1_ne _ _ (by omega), upd1_same]
    rw [e2, e1, e0]
    exact hrow6
theorem pri_more {v v1 : World} {base B room i p l : Nat} {cb cb' lb : Nat → Nat} {pv : Nat → Value} {lv lv' qv : Value} (hP : Pri v base B room i p cb lb pv lv) (hLv : Lev v B cb' (cinR room i) l qv room) (hN : Nums v cb' (cinR room i + 2 + room * 3) (ival room)) (hcb : ∀ k, k < cinR room i → cb' k = cb k) (hBb : base ≤ B)
    (hrow : v1.ownsRow base 256 1 lv' (i + 1) (ptrs lb 0 i ++ [.pointer (some ⟨l, 0, none⟩)]))
    (hch : Chg (fun b => lv.ownBlock = some b) (v.alloc (.cells #[.pointer (some ⟨l, 0, none⟩)] 256)) v1) :
    v1.cell? ⟨p, 1, none⟩ = some lv ∧ (∀ o, v1.frozen? ⟨p, o, none⟩ = false) ∧ (∀ g, lv.ownBlock = some g → base ≤ g) ∧ Chg (fun b => lv.ownBlock = some b ∨ b = p) v (v1.setCell ⟨p, 1, none⟩ lv') ∧
      Pri (v1.setCell ⟨p, 1, none⟩ lv') base (v1.setCell ⟨p, 1, none⟩ lv').heap.size room (i + 1) p cb' (upd1 lb i l) (upd1 pv i qv) lv' := by
  have hpl : p < v.heap.size := (Array.getElem?_eq_some_iff.1 hP.obj).1
  have hc1 : Chg (fun b => lv.ownBlock = some b) v v1 := ((Chg.refl _ v).alloc _).trans hch (fun _ _ x => x)
  have ho1 : v1.heap[p]? = some (.cells #[.pointer (some ⟨cb 0, 0, none⟩), lv] 220 (0, 0)) := (hc1.keep p hpl (fun x => own_type hP.row x hP.obj (by decide) rfl)).trans hP.obj
  have ho6 := heap_setCell_cells (a := ⟨p, 1, none⟩) (v := lv') ho1 rfl
  have hcs : Chg (fun b => b = p) v1 (v1.setCell ⟨p, 1, none⟩ lv') := (Chg.refl _ v1).setCell (a := ⟨p, 1, none⟩) _ (.inl rfl)
  have hrow6 := own_chg hrow hcs (fun g hg x => by subst x; exact own_type hrow hg ho1 (by decide) rfl)
  have hc6 : Chg (fun b => lv.ownBlock = some b ∨ b = p) v (v1.setCell ⟨p, 1, none⟩ lv') := (hc1.mono (T' := fun b => lv.ownBlock = some b ∨ b = p) (fun _ _ x => .inl x)).setCell (a := ⟨p, 1, none⟩) lv' (.inl (.inr rfl))
  have hno : ∀ b c e f, v.heap[b]? = some (.cells c e f) → e ≠ 256 → e ≠ 220 → ¬ (lv.ownBlock = some b ∨ b = p) := fun b c e f hb h1 h2 x => by
    rcases x with x | x
    · exact own_type hP.row x hb (fun y => h1 y.symm) rfl
    · exact typed_ne hb hP.obj h2 x
  have hlev : ∀ {b c0 l q j} {cx : Nat → Nat}, Lev v b cx c0 l q j → Lev (v1.setCell ⟨p, 1, none⟩ lv') b cx c0 l q j := fun h =>
    h.kept hc6 (hno _ _ _ _ h.obj (by decide) (by decide)) (fun g hg => by obtain ⟨c, f, hx⟩ := own_obj h.row hg; exact hno _ _ _ _ hx (by decide) (by decide))
  have hci : cinR room (i + 1) = cinR room i + 2 + room * 3 := by unfold cinR; rw [Nat.succ_mul]; omega
  have hN6 : Nums (v1.setCell ⟨p, 1, none⟩ lv') cb' (cinR room (i + 1)) (ival room) := by rw [hci]; exact hN.kept hc6 (fun k hk => hno _ _ _ _ (hN.cell k hk) (by decide) (by decide))
  have hmono : ∀ k, k < i → cinR room k + 2 + room * 3 ≤ cinR room i := fun k hk => by
    have : (k + 1) * (2 + 3 * room) ≤ i * (2 + 3 * room) := Nat.mul_le_mul_right _ hk
    unfold cinR; rw [Nat.succ_mul] at this; omega
  refine ⟨by unfold World.cell?; simp only; rw [ho1]; rfl, fun o => by unfold World.frozen?; simp only; rw [ho1]; simp, fun g hg => (hP.row.lt g hg).1, hc6, Pri.low (m := (v1.setCell ⟨p, 1, none⟩ lv').heap.size) ⟨?_, ?_, ?_, hN6, (Array.getElem?_eq_some_iff.1 ho6).1, fun g hg => (hrow6.lt g hg).2, ?_, fun k hk => hN6.lt hk⟩⟩
  · rw [hcb 0 (by unfold cinR; omega)]; exact ho6
  · rw [ptrs_one, ptrs_congr (cb' := upd1 lb i l) (cb := lb) (fun k hk => upd1_ne _ _ (by omega)), show 0 + i = i by omega, upd1_same]
    exact hrow6
  · intro k hk
    by_cases e : k = i
    · subst e; rw [upd1_same, upd1_same]; exact hlev (hLv.base hBb)
    · rw [upd1_ne _ _ e, upd1_ne _ _ e]
      exact hlev ((hP.lev k (by omega)).congr (fun k' hk' => hcb k' (by have := hmono k (by omega); omega)))
  · intro k hk
    by_cases e : k = i
    · subst e; rw [upd1_same, upd1_same]
      have h := hlev hLv
      exact ⟨(Array.getElem?_eq_some_iff.1 h.obj).1, fun g hg => (h.row.lt g hg).2⟩
    · rw [upd1_ne _ _ e, upd1_ne _ _ e]
      have h := hlev (hP.lev k (by omega))
      exact ⟨(Array.getElem?_eq_some_iff.1 h.obj).1, fun g hg => (h.row.lt g hg).2⟩
/-- All the levels are there: so it lies. -/
theorem pri_done {w : World} {base m room L p : Nat} {cb lb : Nat → Nat} {pv : Nat → Value} {lv : Value} (hP : Pri w base m room L p cb lb pv lv) (h0 : 1 ≤ L) (h1 : L ≤ 8) (h2 : 2 ≤ room) (h3 : room ≤ 4096) : ∃ A : PA, A.L = L ∧ A.room = room ∧ A.p = p ∧ A.cb = cb ∧ PW w A (ival room) := by
  obtain ⟨gl, gc, hlv, _, _, _, hrow, _⟩ := own_some hP.row (by omega)
  obtain ⟨gp, hgp⟩ : ∃ gp : Nat → Nat, gp = fun k => ((pv k).ownBlock).getD 0 := ⟨_, rfl⟩
  obtain ⟨pc, hpc⟩ : ∃ pc : Nat → Nat, pc = fun k => match pv k with | .slice _ _ c => c | _ => 0 := ⟨_, rfl⟩
  have hl : ∀ k, k < L → pv k = .slice (some ⟨gp k, 0, none⟩) room (pc k) ∧ (∀ j u, (ptrs cb (cinR room k + 2) (room * 3))[j]? = some u → w.cell? ⟨gp k, j, none⟩ = some u) := fun k hk => by
    obtain ⟨g, c, e, _, _, _, hr, _⟩ := own_some (hP.lev k hk).row (by omega)
    have e1 : gp k = g := by rw [hgp]; simp only [e]; rfl
    have e2 : pc k = c := by rw [hpc]; simp only [e]
    rw [e1, e2]; exact ⟨e, hr⟩
  have hpt : ∀ (f : Nat → Nat) c n j, j < n → (ptrs f c n)[j]? = some (.pointer (some ⟨f (c + j), 0, none⟩)) := fun f c n j hj => by simp [ptrs, hj]
  have hcell : ∀ {b : Nat} {cs : Array Value} {e : TypeId} {f} {j : Nat} {x : Value}, w.heap[b]? = some (.cells cs e f) → cs[j]? = some x → w.cell? ⟨b, j, none⟩ = some x := fun hb hx => by unfold World.cell?; simp only; rw [hb]; simpa using hx
  refine ⟨⟨p, gl, gc, lb, gp, pc, cb, L, room⟩, rfl, rfl, rfl, rfl, ⟨hcell hP.obj rfl, ?_, ?_, ?_, ?_, ?_, ?_⟩, ?_, by show 0 < L; omega, h1, h2, h3⟩
  · have := hcell (j := 1) (x := lv) hP.obj rfl
    rw [hlv] at this; exact this
  · intro i hi
    have := hrow i _ (hpt lb 0 L i hi)
    rwa [Nat.zero_add] at this
  · exact fun i hi => hcell (hP.lev i hi).obj rfl
  · exact fun i hi => hcell (hP.lev i hi).obj rfl
  · intro i hi
    have := hcell (j := 2) (x := pv i) (hP.lev i hi).obj rfl
    rw [(hl i hi).1] at this; exact this
  · intro i hi j hj
    exact (hl i hi).2 j _ (hpt cb (cinR room i + 2) (room * 3) j (by have : j < 3 * room := hj; omega))
  · exact hP.n
end Go.Proofs.Ythnfheohfnhcpaa.Y
