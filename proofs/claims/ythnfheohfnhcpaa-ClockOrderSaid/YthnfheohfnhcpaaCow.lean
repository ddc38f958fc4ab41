/- ClockOrder: the loop over what rang; the loop over what did not. -/
import Derived.Test.YthnfheohfnhcpaaCox
set_option linter.unusedSimpArgs false
set_option linter.unusedVariables false
set_option maxRecDepth 20000
set_option maxHeartbeats 4000000
namespace Go.Proofs.Ythnfheohfnhcpaa.Y
open Go Go.Conc Go.Proofs
variable {S : Type} {E : Eng Try.prog S}
def Hid (p : Prop) : Prop := p
theorem lex_irr {dd : Nat → Int} {x : Nat} : ¬ lex dd x x := fun h => by
  rcases h with h | h
  · omega
  · omega
theorem pw_get {dd : Nat → Int} {L : List Nat} (h : L.Pairwise (lex dd)) {i j x y : Nat} (hi : L[i]? = some x) (hj : L[j]? = some y) (hij : i < j) : lex dd x y := by
  obtain ⟨h1, rfl⟩ := List.getElem?_eq_some_iff.1 hi
  obtain ⟨h2, rfl⟩ := List.getElem?_eq_some_iff.1 hj
  exact List.pairwise_iff_getElem.1 h i j h1 h2 hij
theorem co_rang {σ : S} {W u : World} {p q : Option Addr} {n cn m cm s B : Nat} {now : Int} {X : Nat → Nat} {At Sp due st : Nat → Int} {fs : Nat → Value} {tv rv : Value} {ov : Nat → Bool} {L : List Nat} {a : Act} (hL : Lone E σ) (hl : In2 W p n At Sp) (hn : n ≤ 16)
    (hF : CoF W u n X tv rv ov) (hC : Clk u W.heap.size now 0 st due fs) (hR : u.ownsRow B 3 1 rv L.length (L.map fun (j : Nat) => Value.int .i64 (j : Int))) (hB : W.heap.size + 36 < B) (h16 : L.length ≤ 16) (hLm : ∀ j, j ∈ L → j < n ∧ ov j = false ∧ ddv (At j) 1000 ≤ now) (hpw : L.Pairwise (lex fun j => ddv (At j) 1000))
    (ha : ∃ jk : Nat → Value, a = (⟨List.toArray ((.slice p n cn : Value) :: (.slice q m cm : Value) :: jk 2 :: jk 3 :: (.bool false : Value) :: (.pointer (some ⟨W.heap.size + 2, 0, none⟩) : Value) :: (.pointer (some ⟨W.heap.size + 35, 0, none⟩) : Value) :: (tv : Value) :: (.slice (some ⟨W.heap.size + 36, 0, none⟩) n n : Value) :: jk 9 :: jk 10 :: jk 11 :: jk 12 :: (.int .i64 now : Value) :: (.int .i64 s : Value) :: jk 15 :: jk 16 :: jk 17 :: jk 18 :: (.int .i64 (-1) : Value) :: (.int .i64 (-1) : Value) :: (.int .i64 0 : Value) :: jk 22 :: jk 23 :: jk 24 :: jk 25 :: jk 26 :: jk 27 :: jk 28 :: jk 29 :: jk 30 :: jk 31 :: jk 32 :: jk 33 :: jk 34 :: jk 35 :: jk 36 :: jk 37 :: jk 38 :: jk 39 :: jk 40 :: jk 41 :: jk 42 :: jk 43 :: jk 44 :: jk 45 :: jk 46 :: jk 47 :: jk 48 :: jk 49 :: jk 50 :: jk 51 :: jk 52 :: jk 53 :: jk 54 :: jk 55 :: jk 56 :: jk 57 :: jk 58 :: jk 59 :: jk 60 :: jk 61 :: jk 62 :: jk 63 :: jk 64 :: jk 65 :: jk 66 :: jk 67 :: jk 68 :: jk 69 :: jk 70 :: jk 71 :: jk 72 :: jk 73 :: jk 74 :: jk 75 :: jk 76 :: jk 77 :: jk 78 :: jk 79 :: jk 80 :: jk 81 :: jk 82 :: jk 83 :: jk 84 :: jk 85 :: jk 86 :: jk 87 :: jk 88 :: jk 89 :: jk 90 :: jk 91 :: jk 92 :: jk 93 :: jk 94 :: jk 95 :: jk 96 :: jk 97 :: jk 98 :: jk 99 :: jk 100 :: jk 101 :: jk 102 :: jk 103 :: jk 104 :: jk 105 :: jk 106 :: jk 107 :: jk 108 :: jk 109 :: jk 110 :: jk 111 :: jk 112 :: jk 113 :: jk 114 :: jk 115 :: jk 116 :: jk 117 :: jk 118 :: jk 119 :: jk 120 :: jk 121 :: jk 122 :: jk 123 :: jk 124 :: jk 125 :: jk 126 :: jk 127 :: jk 128 :: jk 129 :: jk 130 :: jk 131 :: jk 132 :: jk 133 :: jk 134 :: jk 135 :: jk 136 :: jk 137 :: jk 138 :: jk 139 :: jk 140 :: jk 141 :: jk 142 :: jk 143 :: jk 144 :: jk 145 :: jk 146 :: jk 147 :: jk 148 :: jk 149 :: jk 150 :: jk 151 :: jk 152 :: jk 153 :: jk 154 :: jk 155 :: jk 156 :: jk 157 :: jk 158 :: jk 159 :: jk 160 :: jk 161 :: jk 162 :: jk 163 :: jk 164 :: jk 165 :: jk 166 :: jk 167 :: jk 168 :: jk 169 :: jk 170 :: jk 171 :: jk 172 :: jk 173 :: jk 174 :: jk 175 :: jk 176 :: jk 177 :: jk 178 :: jk 179 :: jk 180 :: jk 181 :: jk 182 :: jk 183 :: jk 184 :: jk 185 :: jk 186 :: jk 187 :: jk 188 :: jk 189 :: jk 190 :: jk 191 :: jk 192 :: jk 193 :: jk 194 :: jk 195 :: jk 196 :: jk 197 :: jk 198 :: jk 199 :: jk 200 :: jk 201 :: jk 202 :: jk 203 :: jk 204 :: jk 205 :: jk 206 :: jk 207 :: jk 208 :: jk 209 :: jk 210 :: jk 211 :: jk 212 :: []), []⟩ : Act)) :
    CodeY E 4 coRang (fun s' e a u => s' = σ ∧ e = .normal ∧ ∃ (ov' : Nat → Bool), CoF W u n X tv rv ov' ∧ Clk u W.heap.size now 0 st due fs ∧ (∀ j, ov' j = true ↔ ov j = true ∨ j ∈ L) ∧ ∃ jk : Nat → Value, a = (⟨List.toArray ((.slice p n cn : Value) :: (.slice q m cm : Value) :: jk 2 :: jk 3 :: (.bool false : Value) :: (.pointer (some ⟨W.heap.size + 2, 0, none⟩) : Value) :: (.pointer (some ⟨W.heap.size + 35, 0, none⟩) : Value) :: (tv : Value) :: (.slice (some ⟨W.heap.size + 36, 0, none⟩) n n : Value) :: jk 9 :: jk 10 :: jk 11 :: jk 12 :: (.int .i64 now : Value) :: (.int .i64 s : Value) :: jk 15 :: jk 16 :: jk 17 :: jk 18 :: jk 19 :: jk 20 :: jk 21 :: jk 22 :: jk 23 :: jk 24 :: jk 25 :: jk 26 :: jk 27 :: jk 28 :: jk 29 :: jk 30 :: jk 31 :: jk 32 :: jk 33 :: jk 34 :: jk 35 :: jk 36 :: jk 37 :: jk 38 :: jk 39 :: jk 40 :: jk 41 :: jk 42 :: jk 43 :: jk 44 :: jk 45 :: jk 46 :: jk 47 :: jk 48 :: jk 49 :: jk 50 :: jk 51 :: jk 52 :: jk 53 :: jk 54 :: jk 55 :: jk 56 :: jk 57 :: jk 58 :: jk 59 :: jk 60 :: jk 61 :: jk 62 :: jk 63 :: jk 64 :: jk 65 :: jk 66 :: jk 67 :: jk 68 :: jk 69 :: jk 70 :: jk 71 :: jk 72 :: jk 73 :: jk 74 :: jk 75 :: jk 76 :: jk 77 :: jk 78 :: jk 79 :: jk 80 :: jk 81 :: jk 82 :: jk 83 :: jk 84 :: jk 85 :: jk 86 :: jk 87 :: jk 88 :: jk 89 :: jk 90 :: jk 91 :: jk 92 :: jk 93 :: jk 94 :: jk 95 :: jk 96 :: jk 97 :: jk 98 :: jk 99 :: jk 100 :: jk 101 :: jk 102 :: jk 103 :: jk 104 :: jk 105 :: jk 106 :: jk 107 :: jk 108 :: jk 109 :: jk 110 :: jk 111 :: jk 112 :: jk 113 :: jk 114 :: jk 115 :: jk 116 :: jk 117 :: jk 118 :: jk 119 :: jk 120 :: jk 121 :: jk 122 :: jk 123 :: jk 124 :: jk 125 :: jk 126 :: jk 127 :: jk 128 :: jk 129 :: jk 130 :: jk 131 :: jk 132 :: jk 133 :: jk 134 :: jk 135 :: jk 136 :: jk 137 :: jk 138 :: jk 139 :: jk 140 :: jk 141 :: jk 142 :: jk 143 :: jk 144 :: jk 145 :: jk 146 :: jk 147 :: jk 148 :: jk 149 :: jk 150 :: jk 151 :: jk 152 :: jk 153 :: jk 154 :: jk 155 :: jk 156 :: jk 157 :: jk 158 :: jk 159 :: jk 160 :: jk 161 :: jk 162 :: jk 163 :: jk 164 :: jk 165 :: jk 166 :: jk 167 :: jk 168 :: jk 169 :: jk 170 :: jk 171 :: jk 172 :: jk 173 :: jk 174 :: jk 175 :: jk 176 :: jk 177 :: jk 178 :: jk 179 :: jk 180 :: jk 181 :: jk 182 :: jk 183 :: jk 184 :: jk 185 :: jk 186 :: jk 187 :: jk 188 :: jk 189 :: jk 190 :: jk 191 :: jk 192 :: jk 193 :: jk 194 :: jk 195 :: jk 196 :: jk 197 :: jk 198 :: jk 199 :: jk 200 :: jk 201 :: jk 202 :: jk 203 :: jk 204 :: jk 205 :: jk 206 :: jk 207 :: jk 208 :: jk 209 :: jk 210 :: jk 211 :: jk 212 :: []), []⟩ : Act)) σ a u := by
  have hs := hL.no
  obtain ⟨jk, rfl⟩ := ha
  obtain ⟨rp, rc, rfl⟩ := own_val hR
  refine codeY_block ?_
  refine codeY_loop (fun s' a u => s' = σ ∧ ∃ (k : Nat) (ov' : Nat → Bool) (last place : Int), k ≤ L.length ∧ CoF W u n X tv (.slice rp L.length rc) ov' ∧ Clk u W.heap.size now 0 st due fs ∧ u.ownsRow B 3 1 (.slice rp L.length rc) L.length (L.map fun (j : Nat) => Value.int .i64 (j : Int)) ∧ (∀ j, ov' j = true ↔ ov j = true ∨ ∃ k', k' < k ∧ L[k']? = some j) ∧ ((k = 0 ∧ last = -1 ∧ place = -1) ∨ ∃ y, 0 < k ∧ L[k - 1]? = some y ∧ last = ddv (At y) 1000 ∧ place = y) ∧ ∃ jk : Nat → Value, a = (⟨List.toArray ((.slice p n cn : Value) :: (.slice q m cm : Value) :: jk 2 :: jk 3 :: (.bool false : Value) :: (.pointer (some ⟨W.heap.size + 2, 0, none⟩) : Value) :: (.pointer (some ⟨W.heap.size + 35, 0, none⟩) : Value) :: (tv : Value) :: (.slice (some ⟨W.heap.size + 36, 0, none⟩) n n : Value) :: jk 9 :: jk 10 :: jk 11 :: jk 12 :: (.int .i64 now : Value) :: (.int .i64 s : Value) :: jk 15 :: jk 16 :: jk 17 :: jk 18 :: (.int .i64 last : Value) :: (.int .i64 place : Value) :: (.int .i64 k : Value) :: jk 22 :: jk 23 :: jk 24 :: jk 25 :: jk 26 :: jk 27 :: jk 28 :: jk 29 :: jk 30 :: jk 31 :: jk 32 :: jk 33 :: jk 34 :: jk 35 :: jk 36 :: jk 37 :: jk 38 :: jk 39 :: jk 40 :: jk 41 :: jk 42 :: jk 43 :: jk 44 :: jk 45 :: jk 46 :: jk 47 :: jk 48 :: jk 49 :: jk 50 :: jk 51 :: jk 52 :: jk 53 :: jk 54 :: jk 55 :: jk 56 :: jk 57 :: jk 58 :: jk 59 :: jk 60 :: jk 61 :: jk 62 :: jk 63 :: jk 64 :: jk 65 :: jk 66 :: jk 67 :: jk 68 :: jk 69 :: jk 70 :: jk 71 :: jk 72 :: jk 73 :: jk 74 :: jk 75 :: jk 76 :: jk 77 :: jk 78 :: jk 79 :: jk 80 :: jk 81 :: jk 82 :: jk 83 :: jk 84 :: jk 85 :: jk 86 :: jk 87 :: jk 88 :: jk 89 :: jk 90 :: jk 91 :: jk 92 :: jk 93 :: jk 94 :: jk 95 :: jk 96 :: jk 97 :: jk 98 :: jk 99 :: jk 100 :: jk 101 :: jk 102 :: jk 103 :: jk 104 :: jk 105 :: jk 106 :: jk 107 :: jk 108 :: jk 109 :: jk 110 :: jk 111 :: jk 112 :: jk 113 :: jk 114 :: jk 115 :: jk 116 :: jk 117 :: jk 118 :: jk 119 :: jk 120 :: jk 121 :: jk 122 :: jk 123 :: jk 124 :: jk 125 :: jk 126 :: jk 127 :: jk 128 :: jk 129 :: jk 130 :: jk 131 :: jk 132 :: jk 133 :: jk 134 :: jk 135 :: jk 136 :: jk 137 :: jk 138 :: jk 139 :: jk 140 :: jk 141 :: jk 142 :: jk 143 :: jk 144 :: jk 145 :: jk 146 :: jk 147 :: jk 148 :: jk 149 :: jk 150 :: jk 151 :: jk 152 :: jk 153 :: jk 154 :: jk 155 :: jk 156 :: jk 157 :: jk 158 :: jk 159 :: jk 160 :: jk 161 :: jk 162 :: jk 163 :: jk 164 :: jk 165 :: jk 166 :: jk 167 :: jk 168 :: jk 169 :: jk 170 :: jk 171 :: jk 172 :: jk 173 :: jk 174 :: jk 175 :: jk 176 :: jk 177 :: jk 178 :: jk 179 :: jk 180 :: jk 181 :: jk 182 :: jk 183 :: jk 184 :: jk 185 :: jk 186 :: jk 187 :: jk 188 :: jk 189 :: jk 190 :: jk 191 :: jk 192 :: jk 193 :: jk 194 :: jk 195 :: jk 196 :: jk 197 :: jk 198 :: jk 199 :: jk 200 :: jk 201 :: jk 202 :: jk 203 :: jk 204 :: jk 205 :: jk 206 :: jk 207 :: jk 208 :: jk 209 :: jk 210 :: jk 211 :: jk 212 :: []), []⟩ : Act)) (fun _ a u => match a.tmps.getD 21 undef with | .int _ x => (16 - x).toNat | _ => 0) ⟨rfl, 0, ov, -1, -1, by omega, hF, hC, hR, fun j => ⟨.inl, fun h => h.elim id (fun ⟨_, h, _⟩ => absurd h (Nat.not_lt_zero _))⟩, .inl ⟨rfl, rfl, rfl⟩, junk_intro _ rfl⟩ ?_
  clear hF hC hR u
  rintro s' a u ⟨rfl, k, ov', last, place, hk, hF, hC, hR, hov, hlp, jk, rfl⟩
  have hrv : u.cell? ⟨W.heap.size + 35, 0, none⟩ = some (.slice rp L.length rc) := obj_cell hF.rg rfl
  by_cases hkl : (k : Int) < L.length
  · have hkl' : k < L.length := by omega
    obtain ⟨x, hx⟩ : ∃ x, L[k]? = some x := ⟨_, List.getElem?_eq_getElem hkl'⟩
    obtain ⟨hxn, hxo, hxd⟩ := hLm x (List.mem_of_getElem? hx)
    obtain ⟨g, cap, htv, hg1, hg2, hg3, hrow, _⟩ := own_some hR (by omega)
    obtain ⟨rfl, rfl⟩ : rp = some ⟨g, 0, none⟩ ∧ rc = cap := by simpa using htv
    have hrx := hrow k (.int .i64 (x : Int)) (by rw [List.getElem?_map, hx]; rfl)
    obtain ⟨ad, rfl, c1, c2, _⟩ := hl.c x hxn
    have c1 := hF.ch.cell_is c1 (fun x => x)
    have hk0 : (0 : Int) ≤ k := by omega
    have hx0 : (0 : Int) ≤ x := by omega
    have hxn' : (x : Int) < n := by omega
    have hd := ddv_range (x := At x) (m := 1000) (by omega)
    have w1 := wrap64 (x := (At x).tmod 1000) (by omega) (by omega)
    have w2 := wrap64 (x := -(At x).tmod 1000) (by omega) (by omega)
    have w3 := wrap64 (x := (k : Int) + 1) (by omega) (by omega)
    have hof : ov' x = false := by
      cases h : ov' x with
      | false => rfl
      | true =>
        rcases (hov x).1 h with h | ⟨k', h1, h2⟩
        · rw [hxo] at h; cases h
        · exact absurd (pw_get hpw h2 hx h1) lex_irr
    have ho := hF.ov x hxn
    rw [hof] at ho
    have hlast : ¬ ddv (At x) 1000 < last ∧ (ddv (At x) 1000 = last → ¬ (x : Int) < place) := by
      rcases hlp with ⟨_, rfl, rfl⟩ | ⟨y, h0, hy, rfl, rfl⟩
      · exact ⟨by omega, fun _ => by omega⟩
      · have := pw_get hpw hy hx (by omega)
        rcases this with h | h
        · exact ⟨by simp only at h; omega, fun e => by simp only at h; omega⟩
        · exact ⟨by simp only at h; omega, fun e => by omega⟩
    have hxh : Hid (L[k]? = some x) := hx
    clear hx hrow htv
    repeat (first | (first | refine codeY_seq ?_ | refine codeY_block ?_ | refine codeY_ret ?_ | refine codeY_skip ?_ | refine codeY_exit ?_ | refine codeY_label ?_ | refine thenY_n ?_ | refine thenY_e ?_ | refine thenY_r ?_ | refine blockY_n ?_ | refine blockY_e ?_ | refine blockY_r ?_ | refine blockY_o rfl ?_ | refine codeY_condT rfl ?_ | refine codeY_condF rfl ?_) | (refine codeY_region_k (fun K hK => ?_); simp only [List.size_toArray, List.length_cons, List.length_nil, Nat.reduceAdd, Nat.zero_add, List.range, List.range.loop]) | (refine opsY_nil ?_; refine hK _ _ _ _ ?_; clear hK K) | (first | (first | (refine opsY_move rfl rfl ?_; walk_nrm) | (refine opsY_assign rfl rfl ?_; walk_nrm)) | (refine opsY_unwanted rfl rfl ?_; walk_nrm) | (refine opsY_nw rfl rfl (nw_of (by rfl)) (fun Ky hKy => ?_); go_simp; refine hKy _ _ ⟨rfl, fun Kx => ?_⟩; clear Kx hKy Ky)))
    refine codeY_mono (Q := fun s'' e a u' => s'' = s' ∧ u = u' ∧ e = .normal ∧ ∃ jk : Nat → Value, a = (⟨List.toArray ((.slice (some ad) n cn : Value) :: (.slice q m cm : Value) :: jk 2 :: jk 3 :: (.bool false : Value) :: (.pointer (some ⟨W.heap.size + 2, 0, none⟩) : Value) :: (.pointer (some ⟨W.heap.size + 35, 0, none⟩) : Value) :: (tv : Value) :: (.slice (some ⟨W.heap.size + 36, 0, none⟩) n n : Value) :: jk 9 :: jk 10 :: jk 11 :: jk 12 :: (.int .i64 now : Value) :: (.int .i64 s : Value) :: jk 15 :: jk 16 :: jk 17 :: jk 18 :: (.int .i64 last : Value) :: (.int .i64 place : Value) :: (.int .i64 k : Value) :: (.int .i64 x : Value) :: (.int .i64 (ddv (At x) 1000) : Value) :: jk 24 :: jk 25 :: jk 26 :: jk 27 :: jk 28 :: jk 29 :: jk 30 :: jk 31 :: jk 32 :: jk 33 :: jk 34 :: jk 35 :: jk 36 :: jk 37 :: jk 38 :: jk 39 :: jk 40 :: jk 41 :: jk 42 :: jk 43 :: jk 44 :: jk 45 :: jk 46 :: jk 47 :: jk 48 :: jk 49 :: jk 50 :: jk 51 :: jk 52 :: jk 53 :: jk 54 :: jk 55 :: jk 56 :: jk 57 :: jk 58 :: jk 59 :: jk 60 :: jk 61 :: jk 62 :: jk 63 :: jk 64 :: jk 65 :: jk 66 :: jk 67 :: jk 68 :: jk 69 :: jk 70 :: jk 71 :: jk 72 :: jk 73 :: jk 74 :: jk 75 :: jk 76 :: jk 77 :: jk 78 :: jk 79 :: jk 80 :: jk 81 :: jk 82 :: jk 83 :: jk 84 :: jk 85 :: jk 86 :: jk 87 :: jk 88 :: jk 89 :: jk 90 :: jk 91 :: jk 92 :: jk 93 :: jk 94 :: jk 95 :: jk 96 :: jk 97 :: jk 98 :: jk 99 :: jk 100 :: jk 101 :: jk 102 :: jk 103 :: jk 104 :: jk 105 :: jk 106 :: jk 107 :: jk 108 :: jk 109 :: jk 110 :: jk 111 :: jk 112 :: jk 113 :: jk 114 :: jk 115 :: jk 116 :: jk 117 :: jk 118 :: jk 119 :: jk 120 :: jk 121 :: jk 122 :: jk 123 :: jk 124 :: jk 125 :: jk 126 :: jk 127 :: jk 128 :: jk 129 :: jk 130 :: jk 131 :: jk 132 :: jk 133 :: jk 134 :: jk 135 :: jk 136 :: jk 137 :: jk 138 :: jk 139 :: jk 140 :: jk 141 :: jk 142 :: jk 143 :: jk 144 :: jk 145 :: jk 146 :: jk 147 :: jk 148 :: jk 149 :: jk 150 :: jk 151 :: jk 152 :: jk 153 :: jk 154 :: jk 155 :: jk 156 :: jk 157 :: jk 158 :: jk 159 :: jk 160 :: jk 161 :: jk 162 :: jk 163 :: jk 164 :: jk 165 :: jk 166 :: jk 167 :: jk 168 :: jk 169 :: jk 170 :: jk 171 :: jk 172 :: jk 173 :: jk 174 :: jk 175 :: jk 176 :: jk 177 :: jk 178 :: jk 179 :: jk 180 :: jk 181 :: jk 182 :: jk 183 :: jk 184 :: jk 185 :: jk 186 :: jk 187 :: jk 188 :: jk 189 :: jk 190 :: jk 191 :: jk 192 :: jk 193 :: jk 194 :: jk 195 :: jk 196 :: jk 197 :: jk 198 :: jk 199 :: jk 200 :: jk 201 :: jk 202 :: jk 203 :: jk 204 :: jk 205 :: jk 206 :: jk 207 :: jk 208 :: jk 209 :: jk 210 :: jk 211 :: jk 212 :: []), []⟩ : Act)) ?_ ?_
    · refine codeY_cond_split rfl (fun ht => ?_) (fun hf => ?_)
      · have h : (At x).tmod 1000 < 0 := by simpa using ht
        have e : ddv (At x) 1000 = -(At x).tmod 1000 := by unfold ddv; rw [if_pos h]
        rw [e]
        repeat (first | (first | refine codeY_seq ?_ | refine codeY_block ?_ | refine codeY_ret ?_ | refine codeY_skip ?_ | refine codeY_exit ?_ | refine codeY_label ?_ | refine thenY_n ?_ | refine thenY_e ?_ | refine thenY_r ?_ | refine blockY_n ?_ | refine blockY_e ?_ | refine blockY_r ?_ | refine blockY_o rfl ?_ | refine codeY_condT rfl ?_ | refine codeY_condF rfl ?_) | (refine codeY_region_k (fun K hK => ?_); simp only [List.size_toArray, List.length_cons, List.length_nil, Nat.reduceAdd, Nat.zero_add, List.range, List.range.loop]) | (refine opsY_nil ?_; refine hK _ _ _ _ ?_; clear hK K) | (first | (first | (refine opsY_move rfl rfl ?_; walk_nrm) | (refine opsY_assign rfl rfl ?_; walk_nrm)) | (refine opsY_unwanted rfl rfl ?_; walk_nrm) | (refine opsY_nw rfl rfl (nw_of (by rfl)) (fun Ky hKy => ?_); go_simp; refine hKy _ _ ⟨rfl, fun Kx => ?_⟩; clear Kx hKy Ky)))
        exact ⟨rfl, rfl, rfl, junk_intro _ rfl⟩
      · have h : ¬ (At x).tmod 1000 < 0 := by simpa using hf
        have e : ddv (At x) 1000 = (At x).tmod 1000 := by unfold ddv; rw [if_neg h]
        rw [e]
        repeat (first | (first | refine codeY_seq ?_ | refine codeY_block ?_ | refine codeY_ret ?_ | refine codeY_skip ?_ | refine codeY_exit ?_ | refine codeY_label ?_ | refine thenY_n ?_ | refine thenY_e ?_ | refine thenY_r ?_ | refine blockY_n ?_ | refine blockY_e ?_ | refine blockY_r ?_ | refine blockY_o rfl ?_ | refine codeY_condT rfl ?_ | refine codeY_condF rfl ?_) | (refine codeY_region_k (fun K hK => ?_); simp only [List.size_toArray, List.length_cons, List.length_nil, Nat.reduceAdd, Nat.zero_add, List.range, List.range.loop]) | (refine opsY_nil ?_; refine hK _ _ _ _ ?_; clear hK K) | (first | (first | (refine opsY_move rfl rfl ?_; walk_nrm) | (refine opsY_assign rfl rfl ?_; walk_nrm)) | (refine opsY_unwanted rfl rfl ?_; walk_nrm) | (refine opsY_nw rfl rfl (nw_of (by rfl)) (fun Ky hKy => ?_); go_simp; refine hKy _ _ ⟨rfl, fun Kx => ?_⟩; clear Kx hKy Ky)))
        exact ⟨rfl, rfl, rfl, junk_intro _ rfl⟩
    clear w1 w2
    rintro s'' e a u' ⟨rfl, rfl, rfl, jk, rfl⟩
    have hx : L[k]? = some x := hxh
    clear hxh
    obtain ⟨D, hD⟩ : ∃ D, D = ddv (At x) 1000 := ⟨_, rfl⟩
    rw [← hD]
    rw [← hD] at hxd hlast
    obtain ⟨hl1, hl2⟩ := hlast
    have hg1' : ¬ now < D := by omega
    have hN : CoF W (u.setCell ⟨W.heap.size + 36, x, none⟩ (.bool true)) n X tv (.slice (some ⟨g, 0, none⟩) L.length rc) (upd1 ov' x true) := hF.over hxn
    have hC2 : Clk (u.setCell ⟨W.heap.size + 36, x, none⟩ (.bool true)) W.heap.size now 0 st due fs := hC.other (a := ⟨W.heap.size + 36, x, none⟩) _ hF.ne
    have hR2 := own_chg hR ((Chg.refl (fun y => y = W.heap.size + 36) u).setCell (a := ⟨W.heap.size + 36, x, none⟩) (.bool true) (.inl rfl)) (fun g' hg' e => by have := (hR.lt g' hg').1; omega)
    have hov2 : ∀ j, upd1 ov' x true j = true ↔ ov j = true ∨ ∃ k', k' < k + 1 ∧ L[k']? = some j := fun j => by
      by_cases e : j = x
      · subst e; rw [upd1_same]; exact ⟨fun _ => .inr ⟨k, by omega, hx⟩, fun _ => rfl⟩
      · rw [upd1_ne _ _ e, hov j]
        constructor
        · rintro (h | ⟨k', h1, h2⟩)
          · exact .inl h
          · exact .inr ⟨k', by omega, h2⟩
        · rintro (h | ⟨k', h1, h2⟩)
          · exact .inl h
          · refine .inr ⟨k', ?_, h2⟩
            have : k' ≠ k := fun e' => by subst e'; rw [hx] at h2; simp only [Option.some.injEq] at h2; exact e h2.symm
            omega
    have hoz := hF.oz
    have hfin : ((k + 1 = 0 ∧ D = -1 ∧ (x : Int) = -1) ∨ ∃ y, 0 < k + 1 ∧ L[k + 1 - 1]? = some y ∧ D = ddv (At y) 1000 ∧ (x : Int) = y) := .inr ⟨x, by omega, hx, hD, rfl⟩
    clear hlp hov hF hC hR hD hx
    by_cases he : D = last
    · have hp := hl2 he
      clear hl1 hl2
      subst he
      have he' : (D == D) = true := by simp
      have a1 : ¬ D < D := by omega
      repeat (first | (first | refine codeY_seq ?_ | refine codeY_block ?_ | refine codeY_ret ?_ | refine codeY_skip ?_ | refine codeY_exit ?_ | refine codeY_label ?_ | refine thenY_n ?_ | refine thenY_e ?_ | refine thenY_r ?_ | refine blockY_n ?_ | refine blockY_e ?_ | refine blockY_r ?_ | refine blockY_o rfl ?_ | refine codeY_condT rfl ?_ | refine codeY_condF rfl ?_) | (refine codeY_region_k (fun K hK => ?_); simp only [List.size_toArray, List.length_cons, List.length_nil, Nat.reduceAdd, Nat.zero_add, List.range, List.range.loop]) | (refine opsY_nil ?_; refine hK _ _ _ _ ?_; clear hK K) | (first | (first | (refine opsY_move rfl rfl ?_; walk_nrm) | (refine opsY_assign rfl rfl ?_; walk_nrm)) | (refine opsY_unwanted rfl rfl ?_; walk_nrm) | (refine opsY_nw rfl rfl (nw_of (by rfl)) (fun Ky hKy => ?_); go_simp; refine hKy _ _ ⟨rfl, fun Kx => ?_⟩; clear Kx hKy Ky)))
      (refine opsY_store1 rfl rfl (by kernel_rfl) rfl rfl rfl rfl ho (hoz _) (hs _) ?_; walk_nrm)
      repeat (first | (first | refine codeY_seq ?_ | refine codeY_block ?_ | refine codeY_ret ?_ | refine codeY_skip ?_ | refine codeY_exit ?_ | refine codeY_label ?_ | refine thenY_n ?_ | refine thenY_e ?_ | refine thenY_r ?_ | refine blockY_n ?_ | refine blockY_e ?_ | refine blockY_r ?_ | refine blockY_o rfl ?_ | refine codeY_condT rfl ?_ | refine codeY_condF rfl ?_) | (refine codeY_region_k (fun K hK => ?_); simp only [List.size_toArray, List.length_cons, List.length_nil, Nat.reduceAdd, Nat.zero_add, List.range, List.range.loop]) | (refine opsY_nil ?_; refine hK _ _ _ _ ?_; clear hK K) | (first | (first | (refine opsY_move rfl rfl ?_; walk_nrm) | (refine opsY_assign rfl rfl ?_; walk_nrm)) | (refine opsY_unwanted rfl rfl ?_; walk_nrm) | (refine opsY_nw rfl rfl (nw_of (by rfl)) (fun Ky hKy => ?_); go_simp; refine hKy _ _ ⟨rfl, fun Kx => ?_⟩; clear Kx hKy Ky)))
      refine ⟨⟨rfl, k + 1, _, D, x, by omega, hN, hC2, hR2, hov2, hfin, junk_intro _ rfl⟩, ?_⟩
      show ((16 : Int) - ((k : Int) + 1)).toNat < ((16 : Int) - (k : Int)).toNat
      omega
    · have he' : (D == last) = false := by simpa using he
      repeat (first | (first | refine codeY_seq ?_ | refine codeY_block ?_ | refine codeY_ret ?_ | refine codeY_skip ?_ | refine codeY_exit ?_ | refine codeY_label ?_ | refine thenY_n ?_ | refine thenY_e ?_ | refine thenY_r ?_ | refine blockY_n ?_ | refine blockY_e ?_ | refine blockY_r ?_ | refine blockY_o rfl ?_ | refine codeY_condT rfl ?_ | refine codeY_condF rfl ?_) | (refine codeY_region_k (fun K hK => ?_); simp only [List.size_toArray, List.length_cons, List.length_nil, Nat.reduceAdd, Nat.zero_add, List.range, List.range.loop]) | (refine opsY_nil ?_; refine hK _ _ _ _ ?_; clear hK K) | (first | (first | (refine opsY_move rfl rfl ?_; walk_nrm) | (refine opsY_assign rfl rfl ?_; walk_nrm)) | (refine opsY_unwanted rfl rfl ?_; walk_nrm) | (refine opsY_nw rfl rfl (nw_of (by rfl)) (fun Ky hKy => ?_); go_simp; refine hKy _ _ ⟨rfl, fun Kx => ?_⟩; clear Kx hKy Ky)))
      (refine opsY_store1 rfl rfl (by kernel_rfl) rfl rfl rfl rfl ho (hoz _) (hs _) ?_; walk_nrm)
      repeat (first | (first | refine codeY_seq ?_ | refine codeY_block ?_ | refine codeY_ret ?_ | refine codeY_skip ?_ | refine codeY_exit ?_ | refine codeY_label ?_ | refine thenY_n ?_ | refine thenY_e ?_ | refine thenY_r ?_ | refine blockY_n ?_ | refine blockY_e ?_ | refine blockY_r ?_ | refine blockY_o rfl ?_ | refine codeY_condT rfl ?_ | refine codeY_condF rfl ?_) | (refine codeY_region_k (fun K hK => ?_); simp only [List.size_toArray, List.length_cons, List.length_nil, Nat.reduceAdd, Nat.zero_add, List.range, List.range.loop]) | (refine opsY_nil ?_; refine hK _ _ _ _ ?_; clear hK K) | (first | (first | (refine opsY_move rfl rfl ?_; walk_nrm) | (refine opsY_assign rfl rfl ?_; walk_nrm)) | (refine opsY_unwanted rfl rfl ?_; walk_nrm) | (refine opsY_nw rfl rfl (nw_of (by rfl)) (fun Ky hKy => ?_); go_simp; refine hKy _ _ ⟨rfl, fun Kx => ?_⟩; clear Kx hKy Ky)))
      refine ⟨⟨rfl, k + 1, _, D, x, by omega, hN, hC2, hR2, hov2, hfin, junk_intro _ rfl⟩, ?_⟩
      show ((16 : Int) - ((k : Int) + 1)).toNat < ((16 : Int) - (k : Int)).toNat
      omega
  · have hke : k = L.length := by omega
    subst hke
    repeat (first | (first | refine codeY_seq ?_ | refine codeY_block ?_ | refine codeY_ret ?_ | refine codeY_skip ?_ | refine codeY_exit ?_ | refine codeY_label ?_ | refine thenY_n ?_ | refine thenY_e ?_ | refine thenY_r ?_ | refine blockY_n ?_ | refine blockY_e ?_ | refine blockY_r ?_ | refine blockY_o rfl ?_ | refine codeY_condT rfl ?_ | refine codeY_condF rfl ?_) | (refine codeY_region_k (fun K hK => ?_); simp only [List.size_toArray, List.length_cons, List.length_nil, Nat.reduceAdd, Nat.zero_add, List.range, List.range.loop]) | (refine opsY_nil ?_; refine hK _ _ _ _ ?_; clear hK K) | (first | (first | (refine opsY_move rfl rfl ?_; walk_nrm) | (refine opsY_assign rfl rfl ?_; walk_nrm)) | (refine opsY_unwanted rfl rfl ?_; walk_nrm) | (refine opsY_nw rfl rfl (nw_of (by rfl)) (fun Ky hKy => ?_); go_simp; refine hKy _ _ ⟨rfl, fun Kx => ?_⟩; clear Kx hKy Ky)))
    refine ⟨rfl, rfl, ov', hF, hC, fun j => ?_, junk_intro _ rfl⟩
    rw [hov j]
    constructor
    · rintro (h | ⟨k', h1, h2⟩)
      · exact .inl h
      · exact .inr (List.mem_of_getElem? h2)
    · rintro (h | h)
      · exact .inl h
      · obtain ⟨k', h1, h2⟩ := List.mem_iff_getElem.1 h
        exact .inr ⟨k', h1, by rw [List.getElem?_eq_getElem h1, h2]⟩
end Go.Proofs.Ythnfheohfnhcpaa.Y
