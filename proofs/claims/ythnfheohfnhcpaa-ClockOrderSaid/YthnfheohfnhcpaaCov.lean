/- ClockOrder: what stands at a step; the loop that stops. -/
import Derived.Test.YthnfheohfnhcpaaCot
set_option linter.unusedSimpArgs false
set_option linter.unusedVariables false
set_option maxRecDepth 20000
set_option maxHeartbeats 4000000
namespace Go.Proofs.Ythnfheohfnhcpaa.Y
open Go Go.Conc Go.Proofs
variable {S : Type} {E : Eng Try.prog S}
structure CoF (W u : World) (n : Nat) (X : Nat → Nat) (tv rv : Value) (ov : Nat → Bool) : Prop where
  ch : Chg (fun _ => False) W u
  rg : u.heap[W.heap.size + 35]? = some (.cells #[rv] 45 (0, 0))
  ov : ∀ j, j < n → u.cell? ⟨W.heap.size + 36, j, none⟩ = some (.bool (ov j))
  oz : ∀ o, u.frozen? ⟨W.heap.size + 36, o, none⟩ = false
  ol : W.heap.size + 36 < u.heap.size
  tm : u.ownsRow (W.heap.size + 37) 32 2 tv n (tms n)
  x : ∀ j, j < n → u.heap[X j]? = some (.cells #[.int .i64 (j : Int)] 3 (0, 0)) ∧ W.heap.size + 36 < X j
theorem CoF.gen {W u u' : World} {n : Nat} {X : Nat → Nat} {tv rv rv' : Value} {ov : Nat → Bool} (h : CoF W u n X tv rv ov) (c : Chg (fun x => InClk W.heap.size x ∨ x = W.heap.size + 35) u u') (ho : u'.heap[W.heap.size + 35]? = some (.cells #[rv'] 45 (0, 0))) : CoF W u' n X tv rv' ov := by
  have h36 : ∀ x, W.heap.size + 36 ≤ x → ¬ (InClk W.heap.size x ∨ x = W.heap.size + 35) := fun x hx y => by
    rcases y with y | y
    · have := y.2; omega
    · omega
  refine ⟨h.ch.trans c (fun b hb x => ?_), ho, fun j hj => c.cell_is (h.ov j hj) (h36 _ (Nat.le_refl _)), fun o => (c.frozen h.ol (h36 _ (Nat.le_refl _))).trans (h.oz o), Nat.lt_of_lt_of_le h.ol c.size, own_chg h.tm c (fun g hg => h36 g (by have := (h.tm.lt g hg).1; omega)), fun j hj => ?_⟩
  · rcases x with x | x
    · have := x.1; omega
    · omega
  · obtain ⟨x1, x2⟩ := h.x j hj
    exact ⟨(c.keep _ (Array.getElem?_eq_some_iff.1 x1).1 (h36 _ (by omega))).trans x1, x2⟩
theorem CoF.kept {W u u' : World} {n : Nat} {X : Nat → Nat} {tv rv : Value} {ov : Nat → Bool} (h : CoF W u n X tv rv ov) (c : Chg (InClk W.heap.size) u u') : CoF W u' n X tv rv ov :=
  h.gen (c.mono (fun _ _ x => .inl x)) ((c.keep _ (Array.getElem?_eq_some_iff.1 h.rg).1 (fun x => by have := x.2; omega)).trans h.rg)
theorem CoF.over {W u : World} {n i : Nat} {X : Nat → Nat} {tv rv : Value} {ov : Nat → Bool} (h : CoF W u n X tv rv ov) (hi : i < n) : CoF W (u.setCell ⟨W.heap.size + 36, i, none⟩ (.bool true)) n X tv rv (upd1 ov i true) := by
  have c : Chg (fun x => x = W.heap.size + 36) u (u.setCell ⟨W.heap.size + 36, i, none⟩ (.bool true)) := (Chg.refl _ u).setCell (a := ⟨W.heap.size + 36, i, none⟩) _ (.inl rfl)
  refine ⟨h.ch.trans c (fun b hb x => by omega), (c.keep _ (Array.getElem?_eq_some_iff.1 h.rg).1 (fun x => by omega)).trans h.rg, fun j hj => ?_, fun o => by simp only [World.frozen?_setCell]; exact h.oz o, Nat.lt_of_lt_of_le h.ol c.size, own_chg h.tm c (fun g hg x => by have := (h.tm.lt g hg).1; omega), fun j hj => ?_⟩
  · by_cases e : j = i
    · subst e; rw [upd1_same]; exact at_of (h.ov j hj)
    · rw [upd1_ne _ _ e, World.cell?_setCell_other _ _ _ _ (fun x => e (congrArg Addr.off x).symm)]; exact h.ov j hj
  · obtain ⟨x1, x2⟩ := h.x j hj
    exact ⟨(c.keep _ (Array.getElem?_eq_some_iff.1 x1).1 (fun x => by omega)).trans x1, x2⟩
/-- So it stands at a step. -/
structure CoS (W u : World) (n : Nat) (now : Int) (dd : Nat → Int) (X : Nat → Nat) (tv rv : Value) (ov : Nat → Bool) (st due : Nat → Int) (fs : Nat → Value) : Prop where
  f : CoF W u n X tv rv ov
  clk : Clk u W.heap.size now 0 st due fs
  due : ∀ j, j < n → due j = dd j
  fs : ∀ j, j < n → fs j = coF W.heap.size X j
  s : ∀ j, j < n → (st j = 2 ∧ ov j = false) ∨ (st j = 4 ∧ ov j = true)
  s0 : ∀ j, n ≤ j → st j = 0
theorem CoF.ne {W u : World} {n : Nat} {X : Nat → Nat} {tv rv : Value} {ov : Nat → Bool} (h : CoF W u n X tv rv ov) : ¬ InClk W.heap.size (W.heap.size + 36) := fun x => by have := x.2; omega
theorem coS_stop {W u u1 : World} {n i : Nat} {now : Int} {dd : Nat → Int} {X : Nat → Nat} {tv rv : Value} {ov : Nat → Bool} {st st1 due : Nat → Int} {fs : Nat → Value} (h : CoS W u n now dd X tv rv ov st due fs) (hi : i < n) (c : Chg (InClk W.heap.size) u u1) (hC : Clk u1 W.heap.size now 0 st1 due fs) (h4 : st1 i = 4) (hne : ∀ j, j ≠ i → st1 j = st j) :
    CoS W (u1.setCell ⟨W.heap.size + 36, i, none⟩ (.bool true)) n now dd X tv rv (upd1 ov i true) st1 due fs := by
  refine ⟨(h.f.kept c).over hi, hC.other (a := ⟨W.heap.size + 36, i, none⟩) _ (h.f.ne), h.due, h.fs, fun j hj => ?_, fun j hj => by rw [hne j (by omega)]; exact h.s0 j hj⟩
  by_cases e : j = i
  · subst e; exact .inr ⟨h4, upd1_same _ _ _⟩
  · rw [hne j e, upd1_ne _ _ e]; exact h.s j hj
theorem tms_get : ∀ n i, i < n → (tms n)[i * 2]? = some (.int .i64 (i : Int)) ∧ (tms n)[i * 2 + 1]? = some (.int .i64 2)
  | 0, i, h => by omega
  | n + 1, i, h => by
    have hlen : ∀ k, (tms k).length = k * 2 := fun k => by
      induction k with
      | zero => rfl
      | succ k ih => rw [tms_more, List.length_append, ih]; simp; omega
    rw [tms_more]
    by_cases e : i = n
    · subst e
      rw [List.getElem?_append_right (by rw [hlen]; omega), List.getElem?_append_right (by rw [hlen]; omega), hlen]
      rw [show i * 2 - i * 2 = 0 by omega, show i * 2 + 1 - i * 2 = 1 by omega]
      exact ⟨rfl, rfl⟩
    · have := tms_get n i (by omega)
      rw [List.getElem?_append_left (by rw [hlen]; omega), List.getElem?_append_left (by rw [hlen]; omega)]
      exact this
theorem tms_at0 {n i : Nat} (h : i < n) : (tms n)[i * 2]? = some (.int .i64 (i : Int)) := (tms_get n i h).1
theorem tms_at1 {n i : Nat} (h : i < n) : (tms n)[i * 2 + 1]? = some (.int .i64 2) := (tms_get n i h).2
noncomputable def coStepBlk : Code := cr (cl (cr (cr (cr (cr (cr (cr (cr (cr (cr (cr coBody)))))))))))
noncomputable def coStep : Code := cbk (cl (cr (cbk (cbk coStepBlk))))
noncomputable def coStop : Code := cr (cl coStep)
theorem co_stop {σ : S} {W u : World} {p q : Option Addr} {n cn m cm s : Nat} {now : Int} {X : Nat → Nat} {At Sp due st : Nat → Int} {fs : Nat → Value} {tv rv : Value} {ov : Nat → Bool} {a : Act} (hL : Lone E σ) (hl : In2 W p n At Sp) (hn : n ≤ 16)
    (h0 : CoS W u n now (fun j => ddv (At j) 1000) X tv rv ov st due fs)
    (ha : ∃ jk : Nat → Value, a = (⟨List.toArray ((.slice p n cn : Value) :: (.slice q m cm : Value) :: jk 2 :: jk 3 :: (.bool false : Value) :: (.pointer (some ⟨W.heap.size + 2, 0, none⟩) : Value) :: (.pointer (some ⟨W.heap.size + 35, 0, none⟩) : Value) :: (tv : Value) :: (.slice (some ⟨W.heap.size + 36, 0, none⟩) n n : Value) :: jk 9 :: jk 10 :: jk 11 :: jk 12 :: (.int .i64 now : Value) :: (.int .i64 s : Value) :: (.int .i64 0 : Value) :: jk 16 :: jk 17 :: jk 18 :: jk 19 :: jk 20 :: jk 21 :: jk 22 :: jk 23 :: jk 24 :: jk 25 :: jk 26 :: jk 27 :: jk 28 :: jk 29 :: jk 30 :: jk 31 :: jk 32 :: jk 33 :: jk 34 :: jk 35 :: jk 36 :: jk 37 :: jk 38 :: jk 39 :: jk 40 :: jk 41 :: jk 42 :: jk 43 :: jk 44 :: jk 45 :: jk 46 :: jk 47 :: jk 48 :: jk 49 :: jk 50 :: jk 51 :: jk 52 :: jk 53 :: jk 54 :: jk 55 :: jk 56 :: jk 57 :: jk 58 :: jk 59 :: jk 60 :: jk 61 :: jk 62 :: jk 63 :: jk 64 :: jk 65 :: jk 66 :: jk 67 :: jk 68 :: jk 69 :: jk 70 :: jk 71 :: jk 72 :: jk 73 :: jk 74 :: jk 75 :: jk 76 :: jk 77 :: jk 78 :: jk 79 :: jk 80 :: jk 81 :: jk 82 :: jk 83 :: jk 84 :: jk 85 :: jk 86 :: jk 87 :: jk 88 :: jk 89 :: jk 90 :: jk 91 :: jk 92 :: jk 93 :: jk 94 :: jk 95 :: jk 96 :: jk 97 :: jk 98 :: jk 99 :: jk 100 :: jk 101 :: jk 102 :: jk 103 :: jk 104 :: jk 105 :: jk 106 :: jk 107 :: jk 108 :: jk 109 :: jk 110 :: jk 111 :: jk 112 :: jk 113 :: jk 114 :: jk 115 :: jk 116 :: jk 117 :: jk 118 :: jk 119 :: jk 120 :: jk 121 :: jk 122 :: jk 123 :: jk 124 :: jk 125 :: jk 126 :: jk 127 :: jk 128 :: jk 129 :: jk 130 :: jk 131 :: jk 132 :: jk 133 :: jk 134 :: jk 135 :: jk 136 :: jk 137 :: jk 138 :: jk 139 :: jk 140 :: jk 141 :: jk 142 :: jk 143 :: jk 144 :: jk 145 :: jk 146 :: jk 147 :: jk 148 :: jk 149 :: jk 150 :: jk 151 :: jk 152 :: jk 153 :: jk 154 :: jk 155 :: jk 156 :: jk 157 :: jk 158 :: jk 159 :: jk 160 :: jk 161 :: jk 162 :: jk 163 :: jk 164 :: jk 165 :: jk 166 :: jk 167 :: jk 168 :: jk 169 :: jk 170 :: jk 171 :: jk 172 :: jk 173 :: jk 174 :: jk 175 :: jk 176 :: jk 177 :: jk 178 :: jk 179 :: jk 180 :: jk 181 :: jk 182 :: jk 183 :: jk 184 :: jk 185 :: jk 186 :: jk 187 :: jk 188 :: jk 189 :: jk 190 :: jk 191 :: jk 192 :: jk 193 :: jk 194 :: jk 195 :: jk 196 :: jk 197 :: jk 198 :: jk 199 :: jk 200 :: jk 201 :: jk 202 :: jk 203 :: jk 204 :: jk 205 :: jk 206 :: jk 207 :: jk 208 :: jk 209 :: jk 210 :: jk 211 :: jk 212 :: []), []⟩ : Act)) :
    CodeY E 4 coStop (fun s' e a u => s' = σ ∧ e = .normal ∧ ∃ (ov : Nat → Bool) (st : Nat → Int), CoS W u n now (fun j => ddv (At j) 1000) X tv rv ov st due fs ∧ ∃ jk : Nat → Value, a = (⟨List.toArray ((.slice p n cn : Value) :: (.slice q m cm : Value) :: jk 2 :: jk 3 :: (.bool false : Value) :: (.pointer (some ⟨W.heap.size + 2, 0, none⟩) : Value) :: (.pointer (some ⟨W.heap.size + 35, 0, none⟩) : Value) :: (tv : Value) :: (.slice (some ⟨W.heap.size + 36, 0, none⟩) n n : Value) :: jk 9 :: jk 10 :: jk 11 :: jk 12 :: (.int .i64 now : Value) :: (.int .i64 s : Value) :: jk 15 :: jk 16 :: jk 17 :: jk 18 :: jk 19 :: jk 20 :: jk 21 :: jk 22 :: jk 23 :: jk 24 :: jk 25 :: jk 26 :: jk 27 :: jk 28 :: jk 29 :: jk 30 :: jk 31 :: jk 32 :: jk 33 :: jk 34 :: jk 35 :: jk 36 :: jk 37 :: jk 38 :: jk 39 :: jk 40 :: jk 41 :: jk 42 :: jk 43 :: jk 44 :: jk 45 :: jk 46 :: jk 47 :: jk 48 :: jk 49 :: jk 50 :: jk 51 :: jk 52 :: jk 53 :: jk 54 :: jk 55 :: jk 56 :: jk 57 :: jk 58 :: jk 59 :: jk 60 :: jk 61 :: jk 62 :: jk 63 :: jk 64 :: jk 65 :: jk 66 :: jk 67 :: jk 68 :: jk 69 :: jk 70 :: jk 71 :: jk 72 :: jk 73 :: jk 74 :: jk 75 :: jk 76 :: jk 77 :: jk 78 :: jk 79 :: jk 80 :: jk 81 :: jk 82 :: jk 83 :: jk 84 :: jk 85 :: jk 86 :: jk 87 :: jk 88 :: jk 89 :: jk 90 :: jk 91 :: jk 92 :: jk 93 :: jk 94 :: jk 95 :: jk 96 :: jk 97 :: jk 98 :: jk 99 :: jk 100 :: jk 101 :: jk 102 :: jk 103 :: jk 104 :: jk 105 :: jk 106 :: jk 107 :: jk 108 :: jk 109 :: jk 110 :: jk 111 :: jk 112 :: jk 113 :: jk 114 :: jk 115 :: jk 116 :: jk 117 :: jk 118 :: jk 119 :: jk 120 :: jk 121 :: jk 122 :: jk 123 :: jk 124 :: jk 125 :: jk 126 :: jk 127 :: jk 128 :: jk 129 :: jk 130 :: jk 131 :: jk 132 :: jk 133 :: jk 134 :: jk 135 :: jk 136 :: jk 137 :: jk 138 :: jk 139 :: jk 140 :: jk 141 :: jk 142 :: jk 143 :: jk 144 :: jk 145 :: jk 146 :: jk 147 :: jk 148 :: jk 149 :: jk 150 :: jk 151 :: jk 152 :: jk 153 :: jk 154 :: jk 155 :: jk 156 :: jk 157 :: jk 158 :: jk 159 :: jk 160 :: jk 161 :: jk 162 :: jk 163 :: jk 164 :: jk 165 :: jk 166 :: jk 167 :: jk 168 :: jk 169 :: jk 170 :: jk 171 :: jk 172 :: jk 173 :: jk 174 :: jk 175 :: jk 176 :: jk 177 :: jk 178 :: jk 179 :: jk 180 :: jk 181 :: jk 182 :: jk 183 :: jk 184 :: jk 185 :: jk 186 :: jk 187 :: jk 188 :: jk 189 :: jk 190 :: jk 191 :: jk 192 :: jk 193 :: jk 194 :: jk 195 :: jk 196 :: jk 197 :: jk 198 :: jk 199 :: jk 200 :: jk 201 :: jk 202 :: jk 203 :: jk 204 :: jk 205 :: jk 206 :: jk 207 :: jk 208 :: jk 209 :: jk 210 :: jk 211 :: jk 212 :: []), []⟩ : Act)) σ a u := by
  have hs := hL.no
  obtain ⟨jk, rfl⟩ := ha
  refine codeY_block ?_
  refine codeY_loop (fun s' a u => s' = σ ∧ ∃ (i : Nat) (ov : Nat → Bool) (st : Nat → Int), i ≤ n ∧ CoS W u n now (fun j => ddv (At j) 1000) X tv rv ov st due fs ∧ ∃ jk : Nat → Value, a = (⟨List.toArray ((.slice p n cn : Value) :: (.slice q m cm : Value) :: jk 2 :: jk 3 :: (.bool false : Value) :: (.pointer (some ⟨W.heap.size + 2, 0, none⟩) : Value) :: (.pointer (some ⟨W.heap.size + 35, 0, none⟩) : Value) :: (tv : Value) :: (.slice (some ⟨W.heap.size + 36, 0, none⟩) n n : Value) :: jk 9 :: jk 10 :: jk 11 :: jk 12 :: (.int .i64 now : Value) :: (.int .i64 s : Value) :: (.int .i64 i : Value) :: jk 16 :: jk 17 :: jk 18 :: jk 19 :: jk 20 :: jk 21 :: jk 22 :: jk 23 :: jk 24 :: jk 25 :: jk 26 :: jk 27 :: jk 28 :: jk 29 :: jk 30 :: jk 31 :: jk 32 :: jk 33 :: jk 34 :: jk 35 :: jk 36 :: jk 37 :: jk 38 :: jk 39 :: jk 40 :: jk 41 :: jk 42 :: jk 43 :: jk 44 :: jk 45 :: jk 46 :: jk 47 :: jk 48 :: jk 49 :: jk 50 :: jk 51 :: jk 52 :: jk 53 :: jk 54 :: jk 55 :: jk 56 :: jk 57 :: jk 58 :: jk 59 :: jk 60 :: jk 61 :: jk 62 :: jk 63 :: jk 64 :: jk 65 :: jk 66 :: jk 67 :: jk 68 :: jk 69 :: jk 70 :: jk 71 :: jk 72 :: jk 73 :: jk 74 :: jk 75 :: jk 76 :: jk 77 :: jk 78 :: jk 79 :: jk 80 :: jk 81 :: jk 82 :: jk 83 :: jk 84 :: jk 85 :: jk 86 :: jk 87 :: jk 88 :: jk 89 :: jk 90 :: jk 91 :: jk 92 :: jk 93 :: jk 94 :: jk 95 :: jk 96 :: jk 97 :: jk 98 :: jk 99 :: jk 100 :: jk 101 :: jk 102 :: jk 103 :: jk 104 :: jk 105 :: jk 106 :: jk 107 :: jk 108 :: jk 109 :: jk 110 :: jk 111 :: jk 112 :: jk 113 :: jk 114 :: jk 115 :: jk 116 :: jk 117 :: jk 118 :: jk 119 :: jk 120 :: jk 121 :: jk 122 :: jk 123 :: jk 124 :: jk 125 :: jk 126 :: jk 127 :: jk 128 :: jk 129 :: jk 130 :: jk 131 :: jk 132 :: jk 133 :: jk 134 :: jk 135 :: jk 136 :: jk 137 :: jk 138 :: jk 139 :: jk 140 :: jk 141 :: jk 142 :: jk 143 :: jk 144 :: jk 145 :: jk 146 :: jk 147 :: jk 148 :: jk 149 :: jk 150 :: jk 151 :: jk 152 :: jk 153 :: jk 154 :: jk 155 :: jk 156 :: jk 157 :: jk 158 :: jk 159 :: jk 160 :: jk 161 :: jk 162 :: jk 163 :: jk 164 :: jk 165 :: jk 166 :: jk 167 :: jk 168 :: jk 169 :: jk 170 :: jk 171 :: jk 172 :: jk 173 :: jk 174 :: jk 175 :: jk 176 :: jk 177 :: jk 178 :: jk 179 :: jk 180 :: jk 181 :: jk 182 :: jk 183 :: jk 184 :: jk 185 :: jk 186 :: jk 187 :: jk 188 :: jk 189 :: jk 190 :: jk 191 :: jk 192 :: jk 193 :: jk 194 :: jk 195 :: jk 196 :: jk 197 :: jk 198 :: jk 199 :: jk 200 :: jk 201 :: jk 202 :: jk 203 :: jk 204 :: jk 205 :: jk 206 :: jk 207 :: jk 208 :: jk 209 :: jk 210 :: jk 211 :: jk 212 :: []), []⟩ : Act)) (fun _ a u => match a.tmps.getD 15 undef with | .int _ x => (16 - x).toNat | _ => 0) ⟨rfl, 0, ov, st, by omega, h0, junk_intro _ rfl⟩ ?_
  clear h0 ov st u
  rintro s' a u ⟨rfl, i, ov, st, hi, hA, jk, rfl⟩
  by_cases hin : (i : Int) < n
  · obtain ⟨ad, rfl, c1, c2, _⟩ := hl.c i (by omega)
    have c2 : u.cell? ⟨(ad.add (i * 2)).block, (ad.add (i * 2)).off + 1, none⟩ = some (.int .i64 (Sp i)) := hA.f.ch.cell_is c2 (fun x => x)
    have hi0 : (0 : Int) ≤ i := by omega
    have w3 := wrap64 (x := (i : Int) + 1) (by omega) (by omega)
    obtain ⟨g, cap, htv, hg1, hg2, hg3, hrow, _⟩ := own_some hA.f.tm (by omega)
    subst htv
    have hin' : i < n := by omega
    by_cases hsp : Sp i = s
    · have hr0 := hrow (i * 2) (.int .i64 (i : Int)) (tms_at0 hin')
      have hr1 := hrow (i * 2 + 1) (.int .i64 2) (tms_at1 hin')
      have ho := hA.f.ov i hin'
      have hC0 : (fun x : World => x.cell? ⟨g, i * 2, none⟩ = some (.int .i64 (i : Int)) ∧ x.cell? ⟨g, i * 2 + 1, none⟩ = some (.int .i64 2) ∧ x.cell? ⟨W.heap.size + 36, i, none⟩ = some (.bool (ov i))) u := ⟨hr0, hr1, ho⟩
      repeat (first | (first | refine codeY_seq ?_ | refine codeY_block ?_ | refine codeY_ret ?_ | refine codeY_skip ?_ | refine codeY_exit ?_ | refine codeY_label ?_ | refine thenY_n ?_ | refine thenY_e ?_ | refine thenY_r ?_ | refine blockY_n ?_ | refine blockY_e ?_ | refine blockY_r ?_ | refine blockY_o rfl ?_ | refine codeY_condT rfl ?_ | refine codeY_condF rfl ?_) | (refine codeY_region_k (fun K hK => ?_); simp only [List.size_toArray, List.length_cons, List.length_nil, Nat.reduceAdd, Nat.zero_add, List.range, List.range.loop]) | (refine opsY_nil ?_; refine hK _ _ _ _ ?_; clear hK K) | (first | (first | (refine opsY_move rfl rfl ?_; walk_nrm) | (refine opsY_assign rfl rfl ?_; walk_nrm)) | (refine opsY_unwanted rfl rfl ?_; walk_nrm) | (refine opsY_nw rfl rfl (nw_of (by rfl)) (fun Ky hKy => ?_); go_simp; refine hKy _ _ ⟨rfl, fun Kx => ?_⟩; clear Kx hKy Ky)))
      (refine codeY_drawn_k (fun x : World => x.cell? ⟨g, i * 2, none⟩ = some (.int .i64 (i : Int)) ∧ x.cell? ⟨g, i * 2 + 1, none⟩ = some (.int .i64 2) ∧ x.cell? ⟨W.heap.size + 36, i, none⟩ = some (.bool (ov i))) (by kernel_rfl) (fun K hK => ?_); simp only [List.size_toArray, List.length_cons, List.length_nil, Nat.reduceAdd, Nat.zero_add, Array.replicate_succ, Array.replicate_zero, List.push_toArray, List.nil_append, List.cons_append])
      (first | (refine anyY_take (i := 0) rfl (by kernel_rfl) (by kernel_rfl) (by decide +kernel) (by kernel_rfl) (.inl ⟨rfl, trivial, fun Cw hCw => rfl⟩) hC0 ?_; walk_nrm; try (simp only [List.setIfInBounds_toArray, List.set_cons_zero, List.set_cons_succ])) | (refine anyY_one (i := 0) (by kernel_rfl) ?_; (first | refine opY_nw rfl rfl (show Nw _ from trivial) (fun Ky hKy => ?_) | refine opY_nw rfl rfl (nw_of (by rfl)) (fun Ky hKy => ?_)); go_simp; refine hKy _ _ ⟨rfl, ?_⟩; clear hKy Ky; refine ⟨.inr hC0, ?_⟩; walk_nrm; try (simp only [List.setIfInBounds_toArray, List.set_cons_zero, List.set_cons_succ])))
      (first | (refine anyY_take (i := 1) rfl (by kernel_rfl) (by kernel_rfl) (by decide +kernel) (by kernel_rfl) (.inl ⟨rfl, trivial, fun Cw hCw => rfl⟩) hC0 ?_; walk_nrm; try (simp only [List.setIfInBounds_toArray, List.set_cons_zero, List.set_cons_succ])) | (refine anyY_one (i := 1) (by kernel_rfl) ?_; (first | refine opY_nw rfl rfl (show Nw _ from trivial) (fun Ky hKy => ?_) | refine opY_nw rfl rfl (nw_of (by rfl)) (fun Ky hKy => ?_)); go_simp; refine hKy _ _ ⟨rfl, ?_⟩; clear hKy Ky; refine ⟨.inr hC0, ?_⟩; walk_nrm; try (simp only [List.setIfInBounds_toArray, List.set_cons_zero, List.set_cons_succ])))
      (first | (refine anyY_take (i := 2) rfl (by kernel_rfl) (by kernel_rfl) (by decide +kernel) (by kernel_rfl) (.inl ⟨rfl, trivial, fun Cw hCw => rfl⟩) hC0 ?_; walk_nrm; try (simp only [List.setIfInBounds_toArray, List.set_cons_zero, List.set_cons_succ])) | (refine anyY_one (i := 2) (by kernel_rfl) ?_; (first | refine opY_nw rfl rfl (show Nw _ from trivial) (fun Ky hKy => ?_) | refine opY_nw rfl rfl (nw_of (by rfl)) (fun Ky hKy => ?_)); go_simp; refine hKy _ _ ⟨rfl, ?_⟩; clear hKy Ky; refine ⟨.inr hC0, ?_⟩; walk_nrm; try (simp only [List.setIfInBounds_toArray, List.set_cons_zero, List.set_cons_succ])))
      (first | (refine anyY_take (i := 3) rfl (by kernel_rfl) (by kernel_rfl) (by decide +kernel) (by kernel_rfl) (.inl ⟨rfl, by exact nw_of (by rfl), fun Cw hCw => by go_simp; try rfl⟩) hC0 ?_; walk_nrm; try (simp only [List.setIfInBounds_toArray, List.set_cons_zero, List.set_cons_succ])) | (refine anyY_one (i := 3) (by kernel_rfl) ?_; (first | refine opY_nw rfl rfl (show Nw _ from trivial) (fun Ky hKy => ?_) | refine opY_nw rfl rfl (nw_of (by rfl)) (fun Ky hKy => ?_)); go_simp; refine hKy _ _ ⟨rfl, ?_⟩; clear hKy Ky; refine ⟨.inr hC0, ?_⟩; walk_nrm; try (simp only [List.setIfInBounds_toArray, List.set_cons_zero, List.set_cons_succ])))
      (first | (refine anyY_take (i := 4) rfl (by kernel_rfl) (by kernel_rfl) (by decide +kernel) (by kernel_rfl) (.inl ⟨rfl, by exact nw_of (by rfl), fun Cw hCw => by go_simp; try rfl⟩) hC0 ?_; walk_nrm; try (simp only [List.setIfInBounds_toArray, List.set_cons_zero, List.set_cons_succ])) | (refine anyY_one (i := 4) (by kernel_rfl) ?_; (first | refine opY_nw rfl rfl (show Nw _ from trivial) (fun Ky hKy => ?_) | refine opY_nw rfl rfl (nw_of (by rfl)) (fun Ky hKy => ?_)); go_simp; refine hKy _ _ ⟨rfl, ?_⟩; clear hKy Ky; refine ⟨.inr hC0, ?_⟩; walk_nrm; try (simp only [List.setIfInBounds_toArray, List.set_cons_zero, List.set_cons_succ])))
      (first | (refine anyY_take (i := 6) rfl (by kernel_rfl) (by kernel_rfl) (by decide +kernel) (by kernel_rfl) (.inl ⟨rfl, trivial, fun Cw hCw => rfl⟩) hC0 ?_; walk_nrm; try (simp only [List.setIfInBounds_toArray, List.set_cons_zero, List.set_cons_succ])) | (refine anyY_one (i := 6) (by kernel_rfl) ?_; (first | refine opY_nw rfl rfl (show Nw _ from trivial) (fun Ky hKy => ?_) | refine opY_nw rfl rfl (nw_of (by rfl)) (fun Ky hKy => ?_)); go_simp; refine hKy _ _ ⟨rfl, ?_⟩; clear hKy Ky; refine ⟨.inr hC0, ?_⟩; walk_nrm; try (simp only [List.setIfInBounds_toArray, List.set_cons_zero, List.set_cons_succ])))
      (first | (refine anyY_take (i := 7) rfl (by kernel_rfl) (by kernel_rfl) (by decide +kernel) (by kernel_rfl) (.inl ⟨rfl, trivial, fun Cw hCw => rfl⟩) hC0 ?_; walk_nrm; try (simp only [List.setIfInBounds_toArray, List.set_cons_zero, List.set_cons_succ])) | (refine anyY_one (i := 7) (by kernel_rfl) ?_; (first | refine opY_nw rfl rfl (show Nw _ from trivial) (fun Ky hKy => ?_) | refine opY_nw rfl rfl (nw_of (by rfl)) (fun Ky hKy => ?_)); go_simp; refine hKy _ _ ⟨rfl, ?_⟩; clear hKy Ky; refine ⟨.inr hC0, ?_⟩; walk_nrm; try (simp only [List.setIfInBounds_toArray, List.set_cons_zero, List.set_cons_succ])))
      (first | (refine anyY_take (i := 8) rfl (by kernel_rfl) (by kernel_rfl) (by decide +kernel) (by kernel_rfl) (.inl ⟨rfl, by exact nw_of (by rfl), fun Cw hCw => by go_simp; try rfl⟩) hC0 ?_; walk_nrm; try (simp only [List.setIfInBounds_toArray, List.set_cons_zero, List.set_cons_succ])) | (refine anyY_one (i := 8) (by kernel_rfl) ?_; (first | refine opY_nw rfl rfl (show Nw _ from trivial) (fun Ky hKy => ?_) | refine opY_nw rfl rfl (nw_of (by rfl)) (fun Ky hKy => ?_)); go_simp; refine hKy _ _ ⟨rfl, ?_⟩; clear hKy Ky; refine ⟨.inr hC0, ?_⟩; walk_nrm; try (simp only [List.setIfInBounds_toArray, List.set_cons_zero, List.set_cons_succ])))
      (first | (refine anyY_take (i := 9) rfl (by kernel_rfl) (by kernel_rfl) (by decide +kernel) (by kernel_rfl) (.inl ⟨rfl, by exact nw_of (by rfl), fun Cw hCw => by go_simp; try rfl⟩) hC0 ?_; walk_nrm; try (simp only [List.setIfInBounds_toArray, List.set_cons_zero, List.set_cons_succ])) | (refine anyY_one (i := 9) (by kernel_rfl) ?_; (first | refine opY_nw rfl rfl (show Nw _ from trivial) (fun Ky hKy => ?_) | refine opY_nw rfl rfl (nw_of (by rfl)) (fun Ky hKy => ?_)); go_simp; refine hKy _ _ ⟨rfl, ?_⟩; clear hKy Ky; refine ⟨.inr hC0, ?_⟩; walk_nrm; try (simp only [List.setIfInBounds_toArray, List.set_cons_zero, List.set_cons_succ])))
      (refine anyY_one (i := 5) (by kernel_rfl) ?_)
      refine opY_callP (pan := fun _ _ _ => False) (CallR.p (stop_go (n := i) (r := 2) hL hA.clk (by omega) (by omega) (by omega) (by decide))) rfl rfl rfl (by first | rfl | (simp [Act.eval]; done) | (simp [Act.eval]; rfl) | (simp [Act.eval]; exact ⟨rfl, rfl⟩)) (fun _ _ _ _ hp _ => hp.elim) ?_
      rintro s2 v u1 ⟨rfl, rfl, hC1, hc1⟩
      walk_nrm
      try (simp only [List.setIfInBounds_toArray, List.set_cons_zero, List.set_cons_succ])
      have hde : (decide (st i = 2) == ov i) = false := by
        rcases hA.s i hin' with ⟨h1, h2⟩ | ⟨h1, h2⟩ <;> rw [h1, h2] <;> decide
      have hng : ¬ InClk W.heap.size g := fun x => by have := x.2; omega
      have hC1' : (fun x : World => x.cell? ⟨g, i * 2, none⟩ = some (.int .i64 (i : Int)) ∧ x.cell? ⟨g, i * 2 + 1, none⟩ = some (.int .i64 2) ∧ x.cell? ⟨W.heap.size + 36, i, none⟩ = some (.bool (ov i))) u1 := ⟨hc1.cell_is hr0 hng, hc1.cell_is hr1 hng, hc1.cell_is ho hA.f.ne⟩
      refine ⟨.inr hC1', ?_⟩
      (first | (refine anyY_take (i := 10) rfl (by kernel_rfl) (by kernel_rfl) (by decide +kernel) (by kernel_rfl) (.inl ⟨rfl, by exact nw_of (by rfl), fun Cw hCw => by go_simp; try rfl⟩) hC1' ?_; walk_nrm; try (simp only [List.setIfInBounds_toArray, List.set_cons_zero, List.set_cons_succ])) | (refine anyY_one (i := 10) (by kernel_rfl) ?_; (first | refine opY_nw rfl rfl (show Nw _ from trivial) (fun Ky hKy => ?_) | refine opY_nw rfl rfl (nw_of (by rfl)) (fun Ky hKy => ?_)); go_simp; refine hKy _ _ ⟨rfl, ?_⟩; clear hKy Ky; refine ⟨.inr hC1', ?_⟩; walk_nrm; try (simp only [List.setIfInBounds_toArray, List.set_cons_zero, List.set_cons_succ])))
      refine anyY_done (by kernel_rfl) (hK _ _ _ _ ?_) _
      clear hK K
      have ho1 := hC1'.2.2
      have hz1 := (hA.f.kept hc1).oz
      repeat (first | (first | refine codeY_seq ?_ | refine codeY_block ?_ | refine codeY_ret ?_ | refine codeY_skip ?_ | refine codeY_exit ?_ | refine codeY_label ?_ | refine thenY_n ?_ | refine thenY_e ?_ | refine thenY_r ?_ | refine blockY_n ?_ | refine blockY_e ?_ | refine blockY_r ?_ | refine blockY_o rfl ?_ | refine codeY_condT rfl ?_ | refine codeY_condF rfl ?_) | (refine codeY_region_k (fun K hK => ?_); simp only [List.size_toArray, List.length_cons, List.length_nil, Nat.reduceAdd, Nat.zero_add, List.range, List.range.loop]) | (refine opsY_nil ?_; refine hK _ _ _ _ ?_; clear hK K) | (first | (first | (refine opsY_move rfl rfl ?_; walk_nrm) | (refine opsY_assign rfl rfl ?_; walk_nrm)) | (refine opsY_unwanted rfl rfl ?_; walk_nrm) | (refine opsY_nw rfl rfl (nw_of (by rfl)) (fun Ky hKy => ?_); go_simp; refine hKy _ _ ⟨rfl, fun Kx => ?_⟩; clear Kx hKy Ky)))
      (refine opsY_store1 rfl rfl (by kernel_rfl) rfl rfl rfl rfl ho1 (hz1 _) (hs _) ?_; walk_nrm)
      have hN := coS_stop hA hin' hc1 hC1 (by
        rcases hA.s i hin' with ⟨h1, h2⟩ | ⟨h1, h2⟩
        · rw [if_pos h1, up_same]; rfl
        · rw [if_neg (by rw [h1]; decide)]; exact h1) (fun j hj => by
        by_cases h : st i = 2
        · rw [if_pos h, up_ne _ _ hj]
        · rw [if_neg h])
      clear hC1 hc1 hA ho1 hz1 hC1' hC0 hr0 hr1 ho
      repeat (first | (first | refine codeY_seq ?_ | refine codeY_block ?_ | refine codeY_ret ?_ | refine codeY_skip ?_ | refine codeY_exit ?_ | refine codeY_label ?_ | refine thenY_n ?_ | refine thenY_e ?_ | refine thenY_r ?_ | refine blockY_n ?_ | refine blockY_e ?_ | refine blockY_r ?_ | refine blockY_o rfl ?_ | refine codeY_condT rfl ?_ | refine codeY_condF rfl ?_) | (refine codeY_region_k (fun K hK => ?_); simp only [List.size_toArray, List.length_cons, List.length_nil, Nat.reduceAdd, Nat.zero_add, List.range, List.range.loop]) | (refine opsY_nil ?_; refine hK _ _ _ _ ?_; clear hK K) | (first | (first | (refine opsY_move rfl rfl ?_; walk_nrm) | (refine opsY_assign rfl rfl ?_; walk_nrm)) | (refine opsY_unwanted rfl rfl ?_; walk_nrm) | (refine opsY_nw rfl rfl (nw_of (by rfl)) (fun Ky hKy => ?_); go_simp; refine hKy _ _ ⟨rfl, fun Kx => ?_⟩; clear Kx hKy Ky)))
      refine ⟨⟨rfl, i + 1, _, _, by omega, hN, junk_intro _ rfl⟩, ?_⟩
      show ((16 : Int) - ((i : Int) + 1)).toNat < ((16 : Int) - (i : Int)).toNat
      omega
    · have hspb : ((Sp i == (s : Int))) = false := by simpa using hsp
      repeat (first | (first | refine codeY_seq ?_ | refine codeY_block ?_ | refine codeY_ret ?_ | refine codeY_skip ?_ | refine codeY_exit ?_ | refine codeY_label ?_ | refine thenY_n ?_ | refine thenY_e ?_ | refine thenY_r ?_ | refine blockY_n ?_ | refine blockY_e ?_ | refine blockY_r ?_ | refine blockY_o rfl ?_ | refine codeY_condT rfl ?_ | refine codeY_condF rfl ?_) | (refine codeY_region_k (fun K hK => ?_); simp only [List.size_toArray, List.length_cons, List.length_nil, Nat.reduceAdd, Nat.zero_add, List.range, List.range.loop]) | (refine opsY_nil ?_; refine hK _ _ _ _ ?_; clear hK K) | (first | (first | (refine opsY_move rfl rfl ?_; walk_nrm) | (refine opsY_assign rfl rfl ?_; walk_nrm)) | (refine opsY_unwanted rfl rfl ?_; walk_nrm) | (refine opsY_nw rfl rfl (nw_of (by rfl)) (fun Ky hKy => ?_); go_simp; refine hKy _ _ ⟨rfl, fun Kx => ?_⟩; clear Kx hKy Ky)))
      refine ⟨⟨rfl, i + 1, ov, st, by omega, hA, junk_intro _ rfl⟩, ?_⟩
      show ((16 : Int) - ((i : Int) + 1)).toNat < ((16 : Int) - (i : Int)).toNat
      omega
  · have hie : i = n := by omega
    subst hie
    repeat (first | (first | refine codeY_seq ?_ | refine codeY_block ?_ | refine codeY_ret ?_ | refine codeY_skip ?_ | refine codeY_exit ?_ | refine codeY_label ?_ | refine thenY_n ?_ | refine thenY_e ?_ | refine thenY_r ?_ | refine blockY_n ?_ | refine blockY_e ?_ | refine blockY_r ?_ | refine blockY_o rfl ?_ | refine codeY_condT rfl ?_ | refine codeY_condF rfl ?_) | (refine codeY_region_k (fun K hK => ?_); simp only [List.size_toArray, List.length_cons, List.length_nil, Nat.reduceAdd, Nat.zero_add, List.range, List.range.loop]) | (refine opsY_nil ?_; refine hK _ _ _ _ ?_; clear hK K) | (first | (first | (refine opsY_move rfl rfl ?_; walk_nrm) | (refine opsY_assign rfl rfl ?_; walk_nrm)) | (refine opsY_unwanted rfl rfl ?_; walk_nrm) | (refine opsY_nw rfl rfl (nw_of (by rfl)) (fun Ky hKy => ?_); go_simp; refine hKy _ _ ⟨rfl, fun Kx => ?_⟩; clear Kx hKy Ky)))
    exact ⟨rfl, rfl, ov, st, hA, junk_intro _ rfl⟩
end Go.Proofs.Ythnfheohfnhcpaa.Y
