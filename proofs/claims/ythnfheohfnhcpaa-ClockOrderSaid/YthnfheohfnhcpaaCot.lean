/- ClockOrder: what is read, what stands; the loop that sets the timers. -/
import Derived.Test.YthnfheohfnhcpaaCor
import Derived.Test.YthnfheohfnhcpaaClw
import Derived.Test.YthnfheohfnhcpaaClq
import Derived.Test.YthnfheohfnhcpaaTop
import Derived.Test.YthnfheohfnhcpaaClt
import Derived.Laws.MakeOwn
set_option linter.unusedSimpArgs false
set_option linter.unusedVariables false
set_option maxRecDepth 20000
set_option maxHeartbeats 4000000
namespace Go.Proofs.Ythnfheohfnhcpaa.Y
open Go Go.Conc Go.Proofs
variable {S : Type} {E : Eng Try.prog S}
theorem opsY_make {P : Program} {S : Type} {E : Eng P S} {fn : FuncId} {Q : S → Exit → Act → World → Prop} {σ : S} {a : Act} {w : World} {ops : Array Oper} {i : Nat} {rest : List Nat} {o : Oper} {t e : TypeId} {x y : Operand} (size bytes : Nat) (z : Value) (n : Nat)
    (ht : P.underlying t = some (.slice e)) (hinf : (P.info? e).map (fun i => (i.size, i.bytes, i.zero)) = some (size, bytes, some z)) (hby : bytes ≤ 1000) (hn : n ≤ 10000000) (hnw : Nw (execOp a.eval o))
    (ho : ops[i]? = some o) (hw : Region.wanted o (yielded ops a.tmps) = true) (hop : o.op = .makeSlice t x y) (hx : a.eval x = .int .i64 (n : Int)) (hy : a.eval y = .int .i64 (n : Int))
    (h : OpsY E fn ops rest Q σ (a.put o.dst (.slice (some ⟨w.heap.size, 0, none⟩) n n)) (w.alloc (.cells (madeCells z.cells (n * size)) e))) : OpsY E fn ops (i :: rest) Q σ a w := by
  obtain ⟨inf, h2, h3, h4, h5⟩ := info_facts hinf
  refine opsY_nw ho hw hnw (fun K hK => ?_)
  have hr := run_make (P := P) w t e inf z ht h2 h3 .i64 .i64 n n (by omega) (Int.le_refl _) (by
    rw [h5]
    have : bytes * n ≤ 1000 * 10000000 := Nat.mul_le_mul hby hn
    have : ((bytes * n : Nat) : Int) ≤ 10000000000 := by omega
    rw [Int.natCast_mul] at this; omega) (by omega)
  rw [h4, Int.toNat_natCast] at hr
  have hrun : (execOp a.eval o).run P w = .ok (.value (.slice (some ⟨w.heap.size, 0, none⟩) n n)) (w.alloc (.cells (madeCells z.cells (n * size)) e)) := by
    unfold execOp
    simp only [hop, hx, hy, Sem.run_bind, Sem.run_pure, hr, Result.andThen_ok]
  rw [hrun]
  exact hK _ _ ⟨rfl, fun _ => h⟩
/-- A slice that is read, of one's numbers in pairs / alone. -/
structure In2 (w : World) (p : Option Addr) (n : Nat) (V0 V1 : Nat → Int) : Prop where
  c : ∀ i, i < n → ∃ a, p = some a ∧ w.cell? (a.add (i * 2)) = some (.int .i64 (V0 i)) ∧ w.cell? ((a.add (i * 2)).add 1) = some (.int .i64 (V1 i)) ∧ a.block < w.heap.size
structure In1 (w : World) (p : Option Addr) (n : Nat) (V : Nat → Int) : Prop where
  c : ∀ i, i < n → ∃ a, p = some a ∧ w.cell? (a.add i) = some (.int .i64 (V i)) ∧ a.block < w.heap.size
/-- What the law makes of a number: its rest, with no sign. -/
def ddv (x m : Int) : Int := if x.tmod m < 0 then -(x.tmod m) else x.tmod m
theorem ddv_range {x m : Int} (hm : 0 < m) : 0 ≤ ddv x m ∧ ddv x m < m ∧ -m < x.tmod m ∧ x.tmod m < m := by
  have ht : -m < x.tmod m ∧ x.tmod m < m := by
    by_cases h0 : 0 ≤ x
    · rw [Int.tmod_eq_emod_of_nonneg h0]; have := Int.emod_nonneg x (by omega : m ≠ 0); have := Int.emod_lt_of_pos x hm; omega
    · obtain ⟨y, rfl⟩ : ∃ y : Int, x = -y := ⟨-x, by omega⟩
      rw [Int.neg_tmod, Int.tmod_eq_emod_of_nonneg (by omega)]; have := Int.emod_nonneg y (by omega : m ≠ 0); have := Int.emod_lt_of_pos y hm; omega
  unfold ddv; split <;> omega
def tms (i : Nat) : List Value := (List.range i).flatMap fun (j : Nat) => [Value.int .i64 (j : Int), Value.int .i64 2]
theorem tms_more (i : Nat) : tms (i + 1) = tms i ++ [.int .i64 (i : Int), .int .i64 2] := by unfold tms; rw [List.range_succ, List.flatMap_append]; rfl
def stA (i : Nat) : Nat → Int := fun j => if j < i then 2 else 0
theorem stA_up (i : Nat) : up (stA i) i (stA i i + 2) = stA (i + 1) := by
  funext j
  unfold up stA
  by_cases e : j = i
  · subst e; rw [if_pos rfl, if_neg (by omega), if_pos (by omega)]; rfl
  · rw [if_neg e]
    by_cases h : j < i
    · rw [if_pos h, if_pos (by omega)]
    · rw [if_neg h, if_neg (by omega)]
/-- So it stands while the timers are set. -/
structure CoA (W u : World) (n i : Nat) (dd : Nat → Int) (Y : Nat) (X : Nat → Nat) (due : Nat → Int) (fs : Nat → Value) (tv : Value) : Prop where
  ch : Chg (fun _ => False) W u
  clk : Clk u W.heap.size 0 0 (stA i) due fs
  due : ∀ j, j < i → due j = dd j
  fs : ∀ j, j < i → fs j = coF W.heap.size X j
  rg : u.heap[W.heap.size + 35]? = some (.cells #[.slice none 0 0] 45 (0, 0))
  ov : ∀ j, j < n → u.cell? ⟨W.heap.size + 36, j, none⟩ = some (.bool false)
  oz : ∀ o, u.frozen? ⟨W.heap.size + 36, o, none⟩ = false
  ol : W.heap.size + 36 < u.heap.size
  tm : u.ownsRow (W.heap.size + 37) 32 2 tv i (tms i)
  x : ∀ j, j < i → u.heap[X j]? = some (.cells #[.int .i64 (j : Int)] 3 (0, 0)) ∧ W.heap.size + 36 < X j
  y : u.heap[Y]? = some (.cells #[.int .i64 (i : Int)] 3 (0, 0))
  yo : W.heap.size + 36 < Y
def tmObj (i : Nat) : Obj := .cells #[.int .i64 (i : Int), .int .i64 2] 32
theorem coA_next {W u u1 w5 : World} {n i Y : Nat} {dd : Nat → Int} {X : Nat → Nat} {due : Nat → Int} {fs : Nat → Value} {tv tv' : Value} (hA : CoA W u n i dd Y X due fs tv)
    (hC1 : Clk u1 W.heap.size 0 0 (stA (i + 1)) (up due i (dd i)) (up fs i (.func (.func 32) #[] #[.pointer (some ⟨W.heap.size + 35, 0, none⟩), .pointer (some ⟨Y, 0, none⟩)]))) (hc1 : Chg (InClk W.heap.size) u u1)
    (hrow : w5.ownsRow (W.heap.size + 37) 32 2 tv' (i + 1) (tms i ++ [.int .i64 (i : Int), .int .i64 2])) (hch : Chg (fun x => tv.ownBlock = some x) ((u1.alloc (tmObj i)).alloc (tmObj i)) w5) :
    w5.cell? ⟨Y, 0, none⟩ = some (.int .i64 (i : Int)) ∧ CoA W (w5.alloc (.cells #[.int .i64 ((i : Int) + 1)] 3)) n (i + 1) dd w5.heap.size (upd1 X i Y) (up due i (dd i)) (up fs i (.func (.func 32) #[] #[.pointer (some ⟨W.heap.size + 35, 0, none⟩), .pointer (some ⟨Y, 0, none⟩)])) tv' := by
  have hown : ∀ g, tv.ownBlock = some g → W.heap.size + 37 ≤ g := fun g hg => (hA.tm.lt g hg).1
  have hk : Chg (fun x => tv.ownBlock = some x) u1 w5 := (((Chg.refl _ u1).alloc _).alloc _).trans hch (fun _ _ x => x)
  have hc5 : Chg (fun x => InClk W.heap.size x ∨ tv.ownBlock = some x) u w5 := (hc1.mono (fun _ _ x => .inl x)).trans hk (fun _ _ x => .inr x)
  have hty : ∀ {b : Nat} {c : Array Value} {e : TypeId} {f : Nat × Nat}, u.heap[b]? = some (.cells c e f) → W.heap.size + 34 < b → e ≠ 32 → w5.heap[b]? = some (.cells c e f) := fun hb hlt he =>
    (hc5.keep _ (Array.getElem?_eq_some_iff.1 hb).1 (fun x => by
      rcases x with x | x
      · have := x.2; omega
      · exact own_type hA.tm x hb (fun y => he y.symm) rfl)).trans hb
  have hm : ∀ {b : Nat} {o : Obj}, w5.heap[b]? = some o → (w5.alloc (.cells #[.int .i64 ((i : Int) + 1)] 3)).heap[b]? = some o := fun hb => (heap_alloc_other w5 _ (by have := (Array.getElem?_eq_some_iff.1 hb).1; omega)).trans hb
  have hyo := hA.yo
  have hy5 := hty hA.y (by omega) (by decide)
  have hc7 : Chg (fun x => InClk W.heap.size x ∨ tv.ownBlock = some x) u (w5.alloc (.cells #[.int .i64 ((i : Int) + 1)] 3)) := hc5.alloc _
  have h36 : ¬ (InClk W.heap.size (W.heap.size + 36) ∨ tv.ownBlock = some (W.heap.size + 36)) := fun x => by
    rcases x with x | x
    · have := x.2; omega
    · have := hown _ x; omega
  refine ⟨obj_cell hy5 rfl, ?_, ?_, ?_, ?_, ?_, ?_, ?_, ?_, ?_, ?_, heap_alloc_self _ _, ?_⟩
  · exact hA.ch.trans hc7 (fun b hb x => by
      rcases x with x | x
      · have := x.1; omega
      · have := hown b x; omega)
  · exact hC1.kept (hk.alloc _) (fun x hx y => by have := hx.2; have := hown x y; omega)
  · intro j hj
    by_cases e : j = i
    · subst e; rw [up_same]
    · rw [up_ne _ _ e]; exact hA.due j (by omega)
  · intro j hj
    by_cases e : j = i
    · subst e; rw [up_same]; unfold coF; rw [upd1_same]
    · rw [up_ne _ _ e, hA.fs j (by omega)]; unfold coF; rw [upd1_ne _ _ e]
  · exact hm (hty hA.rg (by omega) (by decide))
  · exact fun j hj => hc7.cell_is (hA.ov j hj) h36
  · exact fun o => (hc7.frozen hA.ol h36).trans (hA.oz o)
  · have := hA.ol; have := hc7.size; omega
  · rw [tms_more]; exact own_chg hrow ((Chg.refl (fun _ => False) w5).alloc _) (fun _ _ x => x)
  · intro j hj
    by_cases e : j = i
    · subst e; rw [upd1_same]; exact ⟨hm hy5, hyo⟩
    · rw [upd1_ne _ _ e]
      obtain ⟨x1, x2⟩ := hA.x j (by omega)
      exact ⟨hm (hty x1 (by omega) (by decide)), x2⟩
  · have := hA.ol; have := hc5.size; omega
noncomputable def cl : Code → Code
  | .seq x _ => x
  | c => c
noncomputable def cr : Code → Code
  | .seq _ y => y
  | c => c
noncomputable def cbk : Code → Code
  | .block _ x => x
  | .loop x => x
  | c => c
noncomputable def coBody : Code := Try.f4.body.getD .skip
noncomputable def coSet : Code := cr (cl (cr (cr (cr (cr (cr (cr (cr (cr coBody)))))))))
def coMu (a : Act) (u : World) : Nat := match a.tmps.getD 9 undef with
  | .pointer (some b) => match u.cell? b with
    | some (.int _ x) => (16 - x).toNat
    | _ => 0
  | _ => 0
theorem coMu_is {a : Act} {u : World} {b : Addr} {k : IntKind} {x : Int} (h9 : a.tmps.getD 9 undef = .pointer (some b)) (hc : u.cell? b = some (.int k x)) : coMu a u = (16 - x).toNat := by
  unfold coMu; rw [h9]; simp only; rw [hc]
theorem coMu_lt {a a' : Act} {u u' : World} {b b' : Addr} {k k' : IntKind} {x x' : Int} (h9 : a.tmps.getD 9 undef = .pointer (some b)) (hc : u.cell? b = some (.int k x)) (h9' : a'.tmps.getD 9 undef = .pointer (some b')) (hc' : u'.cell? b' = some (.int k' x')) (h : x' < x ∧ x' < 16) : coMu a u < coMu a' u' := by
  rw [coMu_is h9 hc, coMu_is h9' hc']; omega
theorem co_set {σ : S} {W u : World} {p q : Option Addr} {n cn m cm Y : Nat} {X : Nat → Nat} {At Sp : Nat → Int} {due : Nat → Int} {fs : Nat → Value} {a : Act} (hL : Lone E σ) (hl : In2 W p n At Sp) (hn : n ≤ 16)
    (h0 : CoA W u n 0 (fun j => ddv (At j) 1000) Y X due fs (.slice none 0 0))
    (ha : ∃ jk : Nat → Value, a = (⟨List.toArray ((.slice p n cn : Value) :: (.slice q m cm : Value) :: jk 2 :: jk 3 :: (.bool false : Value) :: (.pointer (some ⟨W.heap.size + 2, 0, none⟩) : Value) :: (.pointer (some ⟨W.heap.size + 35, 0, none⟩) : Value) :: (.slice none 0 0 : Value) :: (.slice (some ⟨W.heap.size + 36, 0, none⟩) n n : Value) :: (.pointer (some ⟨Y, 0, none⟩) : Value) :: jk 10 :: jk 11 :: jk 12 :: jk 13 :: jk 14 :: jk 15 :: jk 16 :: jk 17 :: jk 18 :: jk 19 :: jk 20 :: jk 21 :: jk 22 :: jk 23 :: jk 24 :: jk 25 :: jk 26 :: jk 27 :: jk 28 :: jk 29 :: jk 30 :: jk 31 :: jk 32 :: jk 33 :: jk 34 :: jk 35 :: jk 36 :: jk 37 :: jk 38 :: jk 39 :: jk 40 :: jk 41 :: jk 42 :: jk 43 :: jk 44 :: jk 45 :: jk 46 :: jk 47 :: jk 48 :: jk 49 :: jk 50 :: jk 51 :: jk 52 :: jk 53 :: jk 54 :: jk 55 :: jk 56 :: jk 57 :: jk 58 :: jk 59 :: jk 60 :: jk 61 :: jk 62 :: jk 63 :: jk 64 :: jk 65 :: jk 66 :: jk 67 :: jk 68 :: jk 69 :: jk 70 :: jk 71 :: jk 72 :: jk 73 :: jk 74 :: jk 75 :: jk 76 :: jk 77 :: jk 78 :: jk 79 :: jk 80 :: jk 81 :: jk 82 :: jk 83 :: jk 84 :: jk 85 :: jk 86 :: jk 87 :: jk 88 :: jk 89 :: jk 90 :: jk 91 :: jk 92 :: jk 93 :: jk 94 :: jk 95 :: jk 96 :: jk 97 :: jk 98 :: jk 99 :: jk 100 :: jk 101 :: jk 102 :: jk 103 :: jk 104 :: jk 105 :: jk 106 :: jk 107 :: jk 108 :: jk 109 :: jk 110 :: jk 111 :: jk 112 :: jk 113 :: jk 114 :: jk 115 :: jk 116 :: jk 117 :: jk 118 :: jk 119 :: jk 120 :: jk 121 :: jk 122 :: jk 123 :: jk 124 :: jk 125 :: jk 126 :: jk 127 :: jk 128 :: jk 129 :: jk 130 :: jk 131 :: jk 132 :: jk 133 :: jk 134 :: jk 135 :: jk 136 :: jk 137 :: jk 138 :: jk 139 :: jk 140 :: jk 141 :: jk 142 :: jk 143 :: jk 144 :: jk 145 :: jk 146 :: jk 147 :: jk 148 :: jk 149 :: jk 150 :: jk 151 :: jk 152 :: jk 153 :: jk 154 :: jk 155 :: jk 156 :: jk 157 :: jk 158 :: jk 159 :: jk 160 :: jk 161 :: jk 162 :: jk 163 :: jk 164 :: jk 165 :: jk 166 :: jk 167 :: jk 168 :: jk 169 :: jk 170 :: jk 171 :: jk 172 :: jk 173 :: jk 174 :: jk 175 :: jk 176 :: jk 177 :: jk 178 :: jk 179 :: jk 180 :: jk 181 :: jk 182 :: jk 183 :: jk 184 :: jk 185 :: jk 186 :: jk 187 :: jk 188 :: jk 189 :: jk 190 :: jk 191 :: jk 192 :: jk 193 :: jk 194 :: jk 195 :: jk 196 :: jk 197 :: jk 198 :: jk 199 :: jk 200 :: jk 201 :: jk 202 :: jk 203 :: jk 204 :: jk 205 :: jk 206 :: jk 207 :: jk 208 :: jk 209 :: jk 210 :: jk 211 :: jk 212 :: []), []⟩ : Act)) :
    CodeY E 4 coSet (fun s e a u => s = σ ∧ e = .normal ∧ ∃ (Y : Nat) (X : Nat → Nat) (due : Nat → Int) (fs : Nat → Value) (tv : Value), CoA W u n n (fun j => ddv (At j) 1000) Y X due fs tv ∧ ∃ jk : Nat → Value, a = (⟨List.toArray ((.slice p n cn : Value) :: (.slice q m cm : Value) :: jk 2 :: jk 3 :: (.bool false : Value) :: (.pointer (some ⟨W.heap.size + 2, 0, none⟩) : Value) :: (.pointer (some ⟨W.heap.size + 35, 0, none⟩) : Value) :: (tv : Value) :: (.slice (some ⟨W.heap.size + 36, 0, none⟩) n n : Value) :: jk 9 :: jk 10 :: jk 11 :: jk 12 :: jk 13 :: jk 14 :: jk 15 :: jk 16 :: jk 17 :: jk 18 :: jk 19 :: jk 20 :: jk 21 :: jk 22 :: jk 23 :: jk 24 :: jk 25 :: jk 26 :: jk 27 :: jk 28 :: jk 29 :: jk 30 :: jk 31 :: jk 32 :: jk 33 :: jk 34 :: jk 35 :: jk 36 :: jk 37 :: jk 38 :: jk 39 :: jk 40 :: jk 41 :: jk 42 :: jk 43 :: jk 44 :: jk 45 :: jk 46 :: jk 47 :: jk 48 :: jk 49 :: jk 50 :: jk 51 :: jk 52 :: jk 53 :: jk 54 :: jk 55 :: jk 56 :: jk 57 :: jk 58 :: jk 59 :: jk 60 :: jk 61 :: jk 62 :: jk 63 :: jk 64 :: jk 65 :: jk 66 :: jk 67 :: jk 68 :: jk 69 :: jk 70 :: jk 71 :: jk 72 :: jk 73 :: jk 74 :: jk 75 :: jk 76 :: jk 77 :: jk 78 :: jk 79 :: jk 80 :: jk 81 :: jk 82 :: jk 83 :: jk 84 :: jk 85 :: jk 86 :: jk 87 :: jk 88 :: jk 89 :: jk 90 :: jk 91 :: jk 92 :: jk 93 :: jk 94 :: jk 95 :: jk 96 :: jk 97 :: jk 98 :: jk 99 :: jk 100 :: jk 101 :: jk 102 :: jk 103 :: jk 104 :: jk 105 :: jk 106 :: jk 107 :: jk 108 :: jk 109 :: jk 110 :: jk 111 :: jk 112 :: jk 113 :: jk 114 :: jk 115 :: jk 116 :: jk 117 :: jk 118 :: jk 119 :: jk 120 :: jk 121 :: jk 122 :: jk 123 :: jk 124 :: jk 125 :: jk 126 :: jk 127 :: jk 128 :: jk 129 :: jk 130 :: jk 131 :: jk 132 :: jk 133 :: jk 134 :: jk 135 :: jk 136 :: jk 137 :: jk 138 :: jk 139 :: jk 140 :: jk 141 :: jk 142 :: jk 143 :: jk 144 :: jk 145 :: jk 146 :: jk 147 :: jk 148 :: jk 149 :: jk 150 :: jk 151 :: jk 152 :: jk 153 :: jk 154 :: jk 155 :: jk 156 :: jk 157 :: jk 158 :: jk 159 :: jk 160 :: jk 161 :: jk 162 :: jk 163 :: jk 164 :: jk 165 :: jk 166 :: jk 167 :: jk 168 :: jk 169 :: jk 170 :: jk 171 :: jk 172 :: jk 173 :: jk 174 :: jk 175 :: jk 176 :: jk 177 :: jk 178 :: jk 179 :: jk 180 :: jk 181 :: jk 182 :: jk 183 :: jk 184 :: jk 185 :: jk 186 :: jk 187 :: jk 188 :: jk 189 :: jk 190 :: jk 191 :: jk 192 :: jk 193 :: jk 194 :: jk 195 :: jk 196 :: jk 197 :: jk 198 :: jk 199 :: jk 200 :: jk 201 :: jk 202 :: jk 203 :: jk 204 :: jk 205 :: jk 206 :: jk 207 :: jk 208 :: jk 209 :: jk 210 :: jk 211 :: jk 212 :: []), []⟩ : Act)) σ a u := by
  have hs := hL.no
  obtain ⟨jk, rfl⟩ := ha
  refine codeY_block ?_
  refine codeY_loop (fun s a u => s = σ ∧ ∃ (i Y : Nat) (X : Nat → Nat) (due : Nat → Int) (fs : Nat → Value) (tv : Value), i ≤ n ∧ CoA W u n i (fun j => ddv (At j) 1000) Y X due fs tv ∧ ∃ jk : Nat → Value, a = (⟨List.toArray ((.slice p n cn : Value) :: (.slice q m cm : Value) :: jk 2 :: jk 3 :: (.bool false : Value) :: (.pointer (some ⟨W.heap.size + 2, 0, none⟩) : Value) :: (.pointer (some ⟨W.heap.size + 35, 0, none⟩) : Value) :: (tv : Value) :: (.slice (some ⟨W.heap.size + 36, 0, none⟩) n n : Value) :: (.pointer (some ⟨Y, 0, none⟩) : Value) :: jk 10 :: jk 11 :: jk 12 :: jk 13 :: jk 14 :: jk 15 :: jk 16 :: jk 17 :: jk 18 :: jk 19 :: jk 20 :: jk 21 :: jk 22 :: jk 23 :: jk 24 :: jk 25 :: jk 26 :: jk 27 :: jk 28 :: jk 29 :: jk 30 :: jk 31 :: jk 32 :: jk 33 :: jk 34 :: jk 35 :: jk 36 :: jk 37 :: jk 38 :: jk 39 :: jk 40 :: jk 41 :: jk 42 :: jk 43 :: jk 44 :: jk 45 :: jk 46 :: jk 47 :: jk 48 :: jk 49 :: jk 50 :: jk 51 :: jk 52 :: jk 53 :: jk 54 :: jk 55 :: jk 56 :: jk 57 :: jk 58 :: jk 59 :: jk 60 :: jk 61 :: jk 62 :: jk 63 :: jk 64 :: jk 65 :: jk 66 :: jk 67 :: jk 68 :: jk 69 :: jk 70 :: jk 71 :: jk 72 :: jk 73 :: jk 74 :: jk 75 :: jk 76 :: jk 77 :: jk 78 :: jk 79 :: jk 80 :: jk 81 :: jk 82 :: jk 83 :: jk 84 :: jk 85 :: jk 86 :: jk 87 :: jk 88 :: jk 89 :: jk 90 :: jk 91 :: jk 92 :: jk 93 :: jk 94 :: jk 95 :: jk 96 :: jk 97 :: jk 98 :: jk 99 :: jk 100 :: jk 101 :: jk 102 :: jk 103 :: jk 104 :: jk 105 :: jk 106 :: jk 107 :: jk 108 :: jk 109 :: jk 110 :: jk 111 :: jk 112 :: jk 113 :: jk 114 :: jk 115 :: jk 116 :: jk 117 :: jk 118 :: jk 119 :: jk 120 :: jk 121 :: jk 122 :: jk 123 :: jk 124 :: jk 125 :: jk 126 :: jk 127 :: jk 128 :: jk 129 :: jk 130 :: jk 131 :: jk 132 :: jk 133 :: jk 134 :: jk 135 :: jk 136 :: jk 137 :: jk 138 :: jk 139 :: jk 140 :: jk 141 :: jk 142 :: jk 143 :: jk 144 :: jk 145 :: jk 146 :: jk 147 :: jk 148 :: jk 149 :: jk 150 :: jk 151 :: jk 152 :: jk 153 :: jk 154 :: jk 155 :: jk 156 :: jk 157 :: jk 158 :: jk 159 :: jk 160 :: jk 161 :: jk 162 :: jk 163 :: jk 164 :: jk 165 :: jk 166 :: jk 167 :: jk 168 :: jk 169 :: jk 170 :: jk 171 :: jk 172 :: jk 173 :: jk 174 :: jk 175 :: jk 176 :: jk 177 :: jk 178 :: jk 179 :: jk 180 :: jk 181 :: jk 182 :: jk 183 :: jk 184 :: jk 185 :: jk 186 :: jk 187 :: jk 188 :: jk 189 :: jk 190 :: jk 191 :: jk 192 :: jk 193 :: jk 194 :: jk 195 :: jk 196 :: jk 197 :: jk 198 :: jk 199 :: jk 200 :: jk 201 :: jk 202 :: jk 203 :: jk 204 :: jk 205 :: jk 206 :: jk 207 :: jk 208 :: jk 209 :: jk 210 :: jk 211 :: jk 212 :: []), []⟩ : Act)) (fun _ a u => coMu a u) ⟨rfl, 0, Y, X, due, fs, .slice none 0 0, by omega, h0, junk_intro _ rfl⟩ ?_
  clear h0
  rintro s a u ⟨rfl, i, Y, X, due, fs, tv, hi, hA, jk, rfl⟩
  have hyc : u.cell? ⟨Y, 0, none⟩ = some (.int .i64 (i : Int)) := obj_cell hA.y rfl
  by_cases hin : (i : Int) < n
  · obtain ⟨ad, rfl, c1, c2, _⟩ := hl.c i (by omega)
    have c1 := hA.ch.cell_is c1 (fun x => x)
    have hi0 : (0 : Int) ≤ i := by omega
    have hd := ddv_range (x := At i) (m := 1000) (by omega)
    have w1 := wrap64 (x := (At i).tmod 1000) (by omega) (by omega)
    have w2 := wrap64 (x := -(At i).tmod 1000) (by omega) (by omega)
    have w3 := wrap64 (x := (i : Int) + 1) (by omega) (by omega)
    repeat (first | (first | refine codeY_seq ?_ | refine codeY_block ?_ | refine codeY_ret ?_ | refine codeY_skip ?_ | refine codeY_exit ?_ | refine codeY_label ?_ | refine thenY_n ?_ | refine thenY_e ?_ | refine thenY_r ?_ | refine blockY_n ?_ | refine blockY_e ?_ | refine blockY_r ?_ | refine blockY_o rfl ?_ | refine codeY_condT rfl ?_ | refine codeY_condF rfl ?_) | (refine codeY_region_k (fun K hK => ?_); simp only [List.size_toArray, List.length_cons, List.length_nil, Nat.reduceAdd, Nat.zero_add, List.range, List.range.loop]) | (refine opsY_nil ?_; refine hK _ _ _ _ ?_; clear hK K) | (first | (first | (refine opsY_move rfl rfl ?_; walk_nrm) | (refine opsY_assign rfl rfl ?_; walk_nrm)) | (refine opsY_unwanted rfl rfl ?_; walk_nrm) | (refine opsY_nw rfl rfl (nw_of (by rfl)) (fun Ky hKy => ?_); go_simp; refine hKy _ _ ⟨rfl, fun Kx => ?_⟩; clear Kx hKy Ky)))
    refine codeY_mono (Q := fun s' e a u' => s' = s ∧ u = u' ∧ e = .normal ∧ ∃ jk : Nat → Value, a = (⟨List.toArray ((.slice (some ad) n cn : Value) :: (.slice q m cm : Value) :: jk 2 :: jk 3 :: (.bool false : Value) :: (.pointer (some ⟨W.heap.size + 2, 0, none⟩) : Value) :: (.pointer (some ⟨W.heap.size + 35, 0, none⟩) : Value) :: (tv : Value) :: (.slice (some ⟨W.heap.size + 36, 0, none⟩) n n : Value) :: (.pointer (some ⟨Y, 0, none⟩) : Value) :: (.int .i64 (ddv (At i) 1000) : Value) :: jk 11 :: jk 12 :: jk 13 :: jk 14 :: jk 15 :: jk 16 :: jk 17 :: jk 18 :: jk 19 :: jk 20 :: jk 21 :: jk 22 :: jk 23 :: jk 24 :: jk 25 :: jk 26 :: jk 27 :: jk 28 :: jk 29 :: jk 30 :: jk 31 :: jk 32 :: jk 33 :: jk 34 :: jk 35 :: jk 36 :: jk 37 :: jk 38 :: jk 39 :: jk 40 :: jk 41 :: jk 42 :: jk 43 :: jk 44 :: jk 45 :: jk 46 :: jk 47 :: jk 48 :: jk 49 :: jk 50 :: jk 51 :: jk 52 :: jk 53 :: jk 54 :: jk 55 :: jk 56 :: jk 57 :: jk 58 :: jk 59 :: jk 60 :: jk 61 :: jk 62 :: jk 63 :: jk 64 :: jk 65 :: jk 66 :: jk 67 :: jk 68 :: jk 69 :: jk 70 :: jk 71 :: jk 72 :: jk 73 :: jk 74 :: jk 75 :: jk 76 :: jk 77 :: jk 78 :: jk 79 :: jk 80 :: jk 81 :: jk 82 :: jk 83 :: jk 84 :: jk 85 :: jk 86 :: jk 87 :: jk 88 :: jk 89 :: jk 90 :: jk 91 :: jk 92 :: jk 93 :: jk 94 :: jk 95 :: jk 96 :: jk 97 :: jk 98 :: jk 99 :: jk 100 :: jk 101 :: jk 102 :: jk 103 :: jk 104 :: jk 105 :: jk 106 :: jk 107 :: jk 108 :: jk 109 :: jk 110 :: jk 111 :: jk 112 :: jk 113 :: jk 114 :: jk 115 :: jk 116 :: jk 117 :: jk 118 :: jk 119 :: jk 120 :: jk 121 :: jk 122 :: jk 123 :: jk 124 :: jk 125 :: jk 126 :: jk 127 :: jk 128 :: jk 129 :: jk 130 :: jk 131 :: jk 132 :: jk 133 :: jk 134 :: jk 135 :: jk 136 :: jk 137 :: jk 138 :: jk 139 :: jk 140 :: jk 141 :: jk 142 :: jk 143 :: jk 144 :: jk 145 :: jk 146 :: jk 147 :: jk 148 :: jk 149 :: jk 150 :: jk 151 :: jk 152 :: jk 153 :: jk 154 :: jk 155 :: jk 156 :: jk 157 :: jk 158 :: jk 159 :: jk 160 :: jk 161 :: jk 162 :: jk 163 :: jk 164 :: jk 165 :: jk 166 :: jk 167 :: jk 168 :: jk 169 :: jk 170 :: jk 171 :: jk 172 :: jk 173 :: jk 174 :: jk 175 :: jk 176 :: jk 177 :: jk 178 :: jk 179 :: jk 180 :: jk 181 :: jk 182 :: jk 183 :: jk 184 :: jk 185 :: jk 186 :: jk 187 :: jk 188 :: jk 189 :: jk 190 :: jk 191 :: jk 192 :: jk 193 :: jk 194 :: jk 195 :: jk 196 :: jk 197 :: jk 198 :: jk 199 :: jk 200 :: jk 201 :: jk 202 :: jk 203 :: jk 204 :: jk 205 :: jk 206 :: jk 207 :: jk 208 :: jk 209 :: jk 210 :: jk 211 :: jk 212 :: []), []⟩ : Act)) ?_ ?_
    · refine codeY_cond_split rfl (fun ht => ?_) (fun hf => ?_)
      · have h : (At i).tmod 1000 < 0 := by simpa using ht
        have e : ddv (At i) 1000 = -(At i).tmod 1000 := by unfold ddv; rw [if_pos h]
        rw [e]
        repeat (first | (first | refine codeY_seq ?_ | refine codeY_block ?_ | refine codeY_ret ?_ | refine codeY_skip ?_ | refine codeY_exit ?_ | refine codeY_label ?_ | refine thenY_n ?_ | refine thenY_e ?_ | refine thenY_r ?_ | refine blockY_n ?_ | refine blockY_e ?_ | refine blockY_r ?_ | refine blockY_o rfl ?_ | refine codeY_condT rfl ?_ | refine codeY_condF rfl ?_) | (refine codeY_region_k (fun K hK => ?_); simp only [List.size_toArray, List.length_cons, List.length_nil, Nat.reduceAdd, Nat.zero_add, List.range, List.range.loop]) | (refine opsY_nil ?_; refine hK _ _ _ _ ?_; clear hK K) | (first | (first | (refine opsY_move rfl rfl ?_; walk_nrm) | (refine opsY_assign rfl rfl ?_; walk_nrm)) | (refine opsY_unwanted rfl rfl ?_; walk_nrm) | (refine opsY_nw rfl rfl (nw_of (by rfl)) (fun Ky hKy => ?_); go_simp; refine hKy _ _ ⟨rfl, fun Kx => ?_⟩; clear Kx hKy Ky)))
        exact ⟨rfl, rfl, rfl, junk_intro _ rfl⟩
      · have h : ¬ (At i).tmod 1000 < 0 := by simpa using hf
        have e : ddv (At i) 1000 = (At i).tmod 1000 := by unfold ddv; rw [if_neg h]
        rw [e]
        repeat (first | (first | refine codeY_seq ?_ | refine codeY_block ?_ | refine codeY_ret ?_ | refine codeY_skip ?_ | refine codeY_exit ?_ | refine codeY_label ?_ | refine thenY_n ?_ | refine thenY_e ?_ | refine thenY_r ?_ | refine blockY_n ?_ | refine blockY_e ?_ | refine blockY_r ?_ | refine blockY_o rfl ?_ | refine codeY_condT rfl ?_ | refine codeY_condF rfl ?_) | (refine codeY_region_k (fun K hK => ?_); simp only [List.size_toArray, List.length_cons, List.length_nil, Nat.reduceAdd, Nat.zero_add, List.range, List.range.loop]) | (refine opsY_nil ?_; refine hK _ _ _ _ ?_; clear hK K) | (first | (first | (refine opsY_move rfl rfl ?_; walk_nrm) | (refine opsY_assign rfl rfl ?_; walk_nrm)) | (refine opsY_unwanted rfl rfl ?_; walk_nrm) | (refine opsY_nw rfl rfl (nw_of (by rfl)) (fun Ky hKy => ?_); go_simp; refine hKy _ _ ⟨rfl, fun Kx => ?_⟩; clear Kx hKy Ky)))
        exact ⟨rfl, rfl, rfl, junk_intro _ rfl⟩
    clear w1 w2
    rintro s' e a u' ⟨rfl, rfl, rfl, jk, rfl⟩
    have hst0 : stA i i = 0 := by unfold stA; rw [if_neg (by omega)]
    repeat (first | (first | refine codeY_seq ?_ | refine codeY_block ?_ | refine codeY_ret ?_ | refine codeY_skip ?_ | refine codeY_exit ?_ | refine codeY_label ?_ | refine thenY_n ?_ | refine thenY_e ?_ | refine thenY_r ?_ | refine blockY_n ?_ | refine blockY_e ?_ | refine blockY_r ?_ | refine blockY_o rfl ?_ | refine codeY_condT rfl ?_ | refine codeY_condF rfl ?_) | (refine codeY_region_k (fun K hK => ?_); simp only [List.size_toArray, List.length_cons, List.length_nil, Nat.reduceAdd, Nat.zero_add, List.range, List.range.loop]) | (refine opsY_nil ?_; refine hK _ _ _ _ ?_; clear hK K) | (first | (first | (refine opsY_move rfl rfl ?_; walk_nrm) | (refine opsY_assign rfl rfl ?_; walk_nrm)) | (refine opsY_unwanted rfl rfl ?_; walk_nrm) | (refine opsY_nw rfl rfl (nw_of (by rfl)) (fun Ky hKy => ?_); go_simp; refine hKy _ _ ⟨rfl, fun Kx => ?_⟩; clear Kx hKy Ky)))
    (refine opsY_callR (set_is (i := i) (fn := .func 32) (f1 := #[]) (f2 := #[.pointer (some ⟨W.heap.size + 35, 0, none⟩), .pointer (some ⟨Y, 0, none⟩)]) (ddv (At i) 1000) hL hA.clk hd.1 (by omega) (by omega) (by rw [hst0]; rfl) (by rw [hst0]; omega) (by rw [hst0]; omega) (fun j hj => by unfold stA; rw [if_pos hj]; decide)) rfl rfl rfl (by first | rfl | (simp [Act.eval]; done) | (simp [Act.eval]; rfl) | (simp [Act.eval]; exact ⟨rfl, rfl⟩)) ?_)
    rintro s v u1 ⟨rfl, rfl, hC1, hc1⟩
    rw [stA_up] at hC1
    rw [show stA i i + 2 = 2 by rw [hst0]; rfl]
    have hbl : ∀ x, InClk W.heap.size x → x < W.heap.size + 35 := fun x hx => hx.2
    walk_nrm
    repeat (first | (first | refine codeY_seq ?_ | refine codeY_block ?_ | refine codeY_ret ?_ | refine codeY_skip ?_ | refine codeY_exit ?_ | refine codeY_label ?_ | refine thenY_n ?_ | refine thenY_e ?_ | refine thenY_r ?_ | refine blockY_n ?_ | refine blockY_e ?_ | refine blockY_r ?_ | refine blockY_o rfl ?_ | refine codeY_condT rfl ?_ | refine codeY_condF rfl ?_) | (refine codeY_region_k (fun K hK => ?_); simp only [List.size_toArray, List.length_cons, List.length_nil, Nat.reduceAdd, Nat.zero_add, List.range, List.range.loop]) | (refine opsY_nil ?_; refine hK _ _ _ _ ?_; clear hK K) | (first | (first | (refine opsY_move rfl rfl ?_; walk_nrm) | (refine opsY_assign rfl rfl ?_; walk_nrm)) | (refine opsY_unwanted rfl rfl ?_; walk_nrm) | (refine opsY_nw rfl rfl (nw_of (by rfl)) (fun Ky hKy => ?_); go_simp; refine hKy _ _ ⟨rfl, fun Kx => ?_⟩; clear Kx hKy Ky)))
    obtain ⟨e0, e1, ez⟩ := two_alloc u1 (.int .i64 0) (.int .i64 0) 32
    (refine opsY_store2 rfl rfl rfl rfl (by kernel_rfl) rfl rfl e0 e1 ez (fun o => hs _) ?_; walk_nrm)
    rw [alloc_set, alloc_set]
    clear e0 e1 ez
    obtain ⟨e0, e1, ez⟩ := two_alloc u1 (.int .i64 (i : Int)) (.int .i64 2) 32
    repeat (first | (first | refine codeY_seq ?_ | refine codeY_block ?_ | refine codeY_ret ?_ | refine codeY_skip ?_ | refine codeY_exit ?_ | refine codeY_label ?_ | refine thenY_n ?_ | refine thenY_e ?_ | refine thenY_r ?_ | refine blockY_n ?_ | refine blockY_e ?_ | refine blockY_r ?_ | refine blockY_o rfl ?_ | refine codeY_condT rfl ?_ | refine codeY_condF rfl ?_) | (refine codeY_region_k (fun K hK => ?_); simp only [List.size_toArray, List.length_cons, List.length_nil, Nat.reduceAdd, Nat.zero_add, List.range, List.range.loop]) | (refine opsY_nil ?_; refine hK _ _ _ _ ?_; clear hK K) | (first | (first | (refine opsY_move rfl rfl ?_; walk_nrm) | (refine opsY_assign rfl rfl ?_; walk_nrm)) | (refine opsY_unwanted rfl rfl ?_; walk_nrm) | (refine opsY_nw rfl rfl (nw_of (by rfl)) (fun Ky hKy => ?_); go_simp; refine hKy _ _ ⟨rfl, fun Kx => ?_⟩; clear Kx hKy Ky)))
    have hsz1 : (u1.alloc (tmObj i)).heap.size = u1.heap.size + 1 := World.size_alloc _ _
    have hc2 : Chg (InClk W.heap.size) u ((u1.alloc (tmObj i)).alloc (tmObj i)) := (hc1.alloc _).alloc _
    have hown : ∀ g, tv.ownBlock = some g → W.heap.size + 37 ≤ g := fun g hg => (hA.tm.lt g hg).1
    have hrow4 := own_chg hA.tm hc2 (fun g hg x => by have := hown g hg; have := x.2; omega)
    have hyo := hA.yo
    have hol := hA.ol
    refine opsY_app (w := (u1.alloc (tmObj i)).alloc (tmObj i)) 2 16 (.agg #[.int .i64 0, .int .i64 0]) (g := u1.heap.size + 1) [.int .i64 (i : Int), .int .i64 2] Try.underlying46 (by kernel_rfl) rfl (by omega) (by omega) hrow4 rfl (fun j' y hy => by rw [← hsz1]; exact cells_alloc _ _ (by simpa using hy)) (by intro y hy; simp at hy; rcases hy with rfl | rfl <;> rfl) (by omega) (by have := hc2.size; omega) hs (by rw [World.size_alloc, hsz1]; omega) rfl rfl rfl rfl rfl (fun tv' w5 hrow hch => ?_)
    obtain ⟨hy5, hN⟩ := coA_next hA hC1 hc1 hrow hch
    clear hrow4 hrow hch hsz1 hc2 e0 e1 ez hC1 hc1 hA c1 c2
    walk_nrm
    repeat (first | (first | refine codeY_seq ?_ | refine codeY_block ?_ | refine codeY_ret ?_ | refine codeY_skip ?_ | refine codeY_exit ?_ | refine codeY_label ?_ | refine thenY_n ?_ | refine thenY_e ?_ | refine thenY_r ?_ | refine blockY_n ?_ | refine blockY_e ?_ | refine blockY_r ?_ | refine blockY_o rfl ?_ | refine codeY_condT rfl ?_ | refine codeY_condF rfl ?_) | (refine codeY_region_k (fun K hK => ?_); simp only [List.size_toArray, List.length_cons, List.length_nil, Nat.reduceAdd, Nat.zero_add, List.range, List.range.loop]) | (refine opsY_nil ?_; refine hK _ _ _ _ ?_; clear hK K) | (first | (first | (refine opsY_move rfl rfl ?_; walk_nrm) | (refine opsY_assign rfl rfl ?_; walk_nrm)) | (refine opsY_unwanted rfl rfl ?_; walk_nrm) | (refine opsY_nw rfl rfl (nw_of (by rfl)) (fun Ky hKy => ?_); go_simp; refine hKy _ _ ⟨rfl, fun Kx => ?_⟩; clear Kx hKy Ky)))
    obtain ⟨f0, fz⟩ := one_alloc w5 (.int .i64 0) 3
    (refine opsY_store1 rfl rfl (by kernel_rfl) rfl rfl rfl rfl f0 (fz _) (hs _) ?_; walk_nrm)
    rw [alloc_set]
    clear f0 fz
    obtain ⟨f0, fz⟩ := one_alloc w5 (.int .i64 (i : Int)) 3
    repeat (first | (first | refine codeY_seq ?_ | refine codeY_block ?_ | refine codeY_ret ?_ | refine codeY_skip ?_ | refine codeY_exit ?_ | refine codeY_label ?_ | refine thenY_n ?_ | refine thenY_e ?_ | refine thenY_r ?_ | refine blockY_n ?_ | refine blockY_e ?_ | refine blockY_r ?_ | refine blockY_o rfl ?_ | refine codeY_condT rfl ?_ | refine codeY_condF rfl ?_) | (refine codeY_region_k (fun K hK => ?_); simp only [List.size_toArray, List.length_cons, List.length_nil, Nat.reduceAdd, Nat.zero_add, List.range, List.range.loop]) | (refine opsY_nil ?_; refine hK _ _ _ _ ?_; clear hK K) | (first | (first | (refine opsY_move rfl rfl ?_; walk_nrm) | (refine opsY_assign rfl rfl ?_; walk_nrm)) | (refine opsY_unwanted rfl rfl ?_; walk_nrm) | (refine opsY_nw rfl rfl (nw_of (by rfl)) (fun Ky hKy => ?_); go_simp; refine hKy _ _ ⟨rfl, fun Kx => ?_⟩; clear Kx hKy Ky)))
    (refine opsY_store1 rfl rfl (by kernel_rfl) rfl rfl rfl rfl f0 (fz _) (hs _) ?_; walk_nrm)
    rw [alloc_set]
    repeat (first | (first | refine codeY_seq ?_ | refine codeY_block ?_ | refine codeY_ret ?_ | refine codeY_skip ?_ | refine codeY_exit ?_ | refine codeY_label ?_ | refine thenY_n ?_ | refine thenY_e ?_ | refine thenY_r ?_ | refine blockY_n ?_ | refine blockY_e ?_ | refine blockY_r ?_ | refine blockY_o rfl ?_ | refine codeY_condT rfl ?_ | refine codeY_condF rfl ?_) | (refine codeY_region_k (fun K hK => ?_); simp only [List.size_toArray, List.length_cons, List.length_nil, Nat.reduceAdd, Nat.zero_add, List.range, List.range.loop]) | (refine opsY_nil ?_; refine hK _ _ _ _ ?_; clear hK K) | (first | (first | (refine opsY_move rfl rfl ?_; walk_nrm) | (refine opsY_assign rfl rfl ?_; walk_nrm)) | (refine opsY_unwanted rfl rfl ?_; walk_nrm) | (refine opsY_nw rfl rfl (nw_of (by rfl)) (fun Ky hKy => ?_); go_simp; refine hKy _ _ ⟨rfl, fun Kx => ?_⟩; clear Kx hKy Ky)))
    refine ⟨⟨rfl, i + 1, w5.heap.size, _, _, _, tv', by omega, hN, junk_intro _ rfl⟩, ?_⟩
    exact coMu_lt rfl (obj_cell (o := 0) (v := .int .i64 ((i : Int) + 1)) (heap_alloc_self w5 (.cells #[.int .i64 ((i : Int) + 1)] 3)) rfl) rfl hyc (by omega)
  · have hie : i = n := by omega
    subst hie
    repeat (first | (first | refine codeY_seq ?_ | refine codeY_block ?_ | refine codeY_ret ?_ | refine codeY_skip ?_ | refine codeY_exit ?_ | refine codeY_label ?_ | refine thenY_n ?_ | refine thenY_e ?_ | refine thenY_r ?_ | refine blockY_n ?_ | refine blockY_e ?_ | refine blockY_r ?_ | refine blockY_o rfl ?_ | refine codeY_condT rfl ?_ | refine codeY_condF rfl ?_) | (refine codeY_region_k (fun K hK => ?_); simp only [List.size_toArray, List.length_cons, List.length_nil, Nat.reduceAdd, Nat.zero_add, List.range, List.range.loop]) | (refine opsY_nil ?_; refine hK _ _ _ _ ?_; clear hK K) | (first | (first | (refine opsY_move rfl rfl ?_; walk_nrm) | (refine opsY_assign rfl rfl ?_; walk_nrm)) | (refine opsY_unwanted rfl rfl ?_; walk_nrm) | (refine opsY_nw rfl rfl (nw_of (by rfl)) (fun Ky hKy => ?_); go_simp; refine hKy _ _ ⟨rfl, fun Kx => ?_⟩; clear Kx hKy Ky)))
    exact ⟨rfl, rfl, Y, X, due, fs, tv, hA, junk_intro _ rfl⟩
end Go.Proofs.Ythnfheohfnhcpaa.Y
