/- ClockOrder: one step. -/
import Derived.Test.YthnfheohfnhcpaaCow
set_option linter.unusedSimpArgs false
set_option linter.unusedVariables false
set_option maxRecDepth 20000
set_option maxHeartbeats 4000000
namespace Go.Proofs.Ythnfheohfnhcpaa.Y
open Go Go.Conc Go.Proofs
variable {S : Type} {E : Eng Try.prog S}
theorem co_after {W u1 : World} {n : Nat} {t : Int} {dd : Nat → Int} {X : Nat → Nat} {tv rv : Value} {ov1 ov2 : Nat → Bool} {st1 st' due : Nat → Int} {fs : Nat → Value} {L : List Nat} (h1 : CoS W u1 n t dd X tv rv ov1 st1 due fs)
    (hin : ∀ j, j ∈ L → st' j = 4 ∧ st1 j = 2) (hout : ∀ j, j ∉ L → st' j = st1 j) (ho : ∀ j, ov2 j = true ↔ ov1 j = true ∨ j ∈ L) : (∀ j, j ∈ L → j < n ∧ ov1 j = false) ∧ (∀ j, j < n → (st' j = 2 ∧ ov2 j = false) ∨ (st' j = 4 ∧ ov2 j = true)) ∧ ∀ j, n ≤ j → st' j = 0 := by
  have hm : ∀ j, j ∈ L → j < n ∧ ov1 j = false := fun j hj => by
    have h2 := (hin j hj).2
    have hjn : j < n := by
      rcases Nat.lt_or_ge j n with x | x
      · exact x
      · rw [h1.s0 j x] at h2; omega
    refine ⟨hjn, ?_⟩
    rcases h1.s j hjn with ⟨_, x⟩ | ⟨x, _⟩
    · exact x
    · rw [h2] at x; omega
  refine ⟨hm, fun j hj => ?_, fun j hj => ?_⟩
  · by_cases hjL : j ∈ L
    · exact .inr ⟨(hin j hjL).1, (ho j).2 (.inr hjL)⟩
    · rw [hout j hjL]
      rcases h1.s j hj with ⟨x, y⟩ | ⟨x, y⟩
      · refine .inl ⟨x, ?_⟩
        cases h : ov2 j with
        | false => rfl
        | true =>
          rcases (ho j).1 h with z | z
          · rw [y] at z; cases z
          · exact absurd z hjL
      · exact .inr ⟨x, (ho j).2 (.inl y)⟩
  · rw [hout j (fun x => by have := (hm j x).1; omega)]; exact h1.s0 j hj
theorem co_step {σ : S} {W u : World} {p q : Option Addr} {n cn m cm s : Nat} {now : Int} {X : Nat → Nat} {At Sp St due st : Nat → Int} {fs : Nat → Value} {tv rv : Value} {ov : Nat → Bool} {a : Act} (hL : Lone E σ) (hl : In2 W p n At Sp) (hm : In1 W q m St) (hn : n ≤ 16) (hsm : s < m) (hn0 : 0 ≤ now) (hn1 : now ≤ 1000000)
    (h0 : CoS W u n now (fun j => ddv (At j) 1000) X tv rv ov st due fs) (ha : ∃ jk : Nat → Value, a = (⟨List.toArray ((.slice p n cn : Value) :: (.slice q m cm : Value) :: jk 2 :: jk 3 :: (.bool false : Value) :: (.pointer (some ⟨W.heap.size + 2, 0, none⟩) : Value) :: (.pointer (some ⟨W.heap.size + 35, 0, none⟩) : Value) :: (tv : Value) :: (.slice (some ⟨W.heap.size + 36, 0, none⟩) n n : Value) :: jk 9 :: jk 10 :: jk 11 :: jk 12 :: (.int .i64 now : Value) :: (.int .i64 s : Value) :: jk 15 :: jk 16 :: jk 17 :: jk 18 :: jk 19 :: jk 20 :: jk 21 :: jk 22 :: jk 23 :: jk 24 :: jk 25 :: jk 26 :: jk 27 :: jk 28 :: jk 29 :: jk 30 :: jk 31 :: jk 32 :: jk 33 :: jk 34 :: jk 35 :: jk 36 :: jk 37 :: jk 38 :: jk 39 :: jk 40 :: jk 41 :: jk 42 :: jk 43 :: jk 44 :: jk 45 :: jk 46 :: jk 47 :: jk 48 :: jk 49 :: jk 50 :: jk 51 :: jk 52 :: jk 53 :: jk 54 :: jk 55 :: jk 56 :: jk 57 :: jk 58 :: jk 59 :: jk 60 :: jk 61 :: jk 62 :: jk 63 :: jk 64 :: jk 65 :: jk 66 :: jk 67 :: jk 68 :: jk 69 :: jk 70 :: jk 71 :: jk 72 :: jk 73 :: jk 74 :: jk 75 :: jk 76 :: jk 77 :: jk 78 :: jk 79 :: jk 80 :: jk 81 :: jk 82 :: jk 83 :: jk 84 :: jk 85 :: jk 86 :: jk 87 :: jk 88 :: jk 89 :: jk 90 :: jk 91 :: jk 92 :: jk 93 :: jk 94 :: jk 95 :: jk 96 :: jk 97 :: jk 98 :: jk 99 :: jk 100 :: jk 101 :: jk 102 :: jk 103 :: jk 104 :: jk 105 :: jk 106 :: jk 107 :: jk 108 :: jk 109 :: jk 110 :: jk 111 :: jk 112 :: jk 113 :: jk 114 :: jk 115 :: jk 116 :: jk 117 :: jk 118 :: jk 119 :: jk 120 :: jk 121 :: jk 122 :: jk 123 :: jk 124 :: jk 125 :: jk 126 :: jk 127 :: jk 128 :: jk 129 :: jk 130 :: jk 131 :: jk 132 :: jk 133 :: jk 134 :: jk 135 :: jk 136 :: jk 137 :: jk 138 :: jk 139 :: jk 140 :: jk 141 :: jk 142 :: jk 143 :: jk 144 :: jk 145 :: jk 146 :: jk 147 :: jk 148 :: jk 149 :: jk 150 :: jk 151 :: jk 152 :: jk 153 :: jk 154 :: jk 155 :: jk 156 :: jk 157 :: jk 158 :: jk 159 :: jk 160 :: jk 161 :: jk 162 :: jk 163 :: jk 164 :: jk 165 :: jk 166 :: jk 167 :: jk 168 :: jk 169 :: jk 170 :: jk 171 :: jk 172 :: jk 173 :: jk 174 :: jk 175 :: jk 176 :: jk 177 :: jk 178 :: jk 179 :: jk 180 :: jk 181 :: jk 182 :: jk 183 :: jk 184 :: jk 185 :: jk 186 :: jk 187 :: jk 188 :: jk 189 :: jk 190 :: jk 191 :: jk 192 :: jk 193 :: jk 194 :: jk 195 :: jk 196 :: jk 197 :: jk 198 :: jk 199 :: jk 200 :: jk 201 :: jk 202 :: jk 203 :: jk 204 :: jk 205 :: jk 206 :: jk 207 :: jk 208 :: jk 209 :: jk 210 :: jk 211 :: jk 212 :: []), []⟩ : Act)) :
    CodeY E 4 coStep (fun s' e a u => s' = σ ∧ e = .normal ∧ ∃ (now' : Int) (ov : Nat → Bool) (st : Nat → Int) (rv : Value), 0 ≤ now' ∧ now' ≤ now + 300 ∧ CoS W u n now' (fun j => ddv (At j) 1000) X tv rv ov st due fs ∧ ∃ jk : Nat → Value, a = (⟨List.toArray ((.slice p n cn : Value) :: (.slice q m cm : Value) :: jk 2 :: jk 3 :: (.bool false : Value) :: (.pointer (some ⟨W.heap.size + 2, 0, none⟩) : Value) :: (.pointer (some ⟨W.heap.size + 35, 0, none⟩) : Value) :: (tv : Value) :: (.slice (some ⟨W.heap.size + 36, 0, none⟩) n n : Value) :: jk 9 :: jk 10 :: jk 11 :: jk 12 :: (.int .i64 now' : Value) :: (.int .i64 s : Value) :: jk 15 :: jk 16 :: jk 17 :: jk 18 :: jk 19 :: jk 20 :: jk 21 :: jk 22 :: jk 23 :: jk 24 :: jk 25 :: jk 26 :: jk 27 :: jk 28 :: jk 29 :: jk 30 :: jk 31 :: jk 32 :: jk 33 :: jk 34 :: jk 35 :: jk 36 :: jk 37 :: jk 38 :: jk 39 :: jk 40 :: jk 41 :: jk 42 :: jk 43 :: jk 44 :: jk 45 :: jk 46 :: jk 47 :: jk 48 :: jk 49 :: jk 50 :: jk 51 :: jk 52 :: jk 53 :: jk 54 :: jk 55 :: jk 56 :: jk 57 :: jk 58 :: jk 59 :: jk 60 :: jk 61 :: jk 62 :: jk 63 :: jk 64 :: jk 65 :: jk 66 :: jk 67 :: jk 68 :: jk 69 :: jk 70 :: jk 71 :: jk 72 :: jk 73 :: jk 74 :: jk 75 :: jk 76 :: jk 77 :: jk 78 :: jk 79 :: jk 80 :: jk 81 :: jk 82 :: jk 83 :: jk 84 :: jk 85 :: jk 86 :: jk 87 :: jk 88 :: jk 89 :: jk 90 :: jk 91 :: jk 92 :: jk 93 :: jk 94 :: jk 95 :: jk 96 :: jk 97 :: jk 98 :: jk 99 :: jk 100 :: jk 101 :: jk 102 :: jk 103 :: jk 104 :: jk 105 :: jk 106 :: jk 107 :: jk 108 :: jk 109 :: jk 110 :: jk 111 :: jk 112 :: jk 113 :: jk 114 :: jk 115 :: jk 116 :: jk 117 :: jk 118 :: jk 119 :: jk 120 :: jk 121 :: jk 122 :: jk 123 :: jk 124 :: jk 125 :: jk 126 :: jk 127 :: jk 128 :: jk 129 :: jk 130 :: jk 131 :: jk 132 :: jk 133 :: jk 134 :: jk 135 :: jk 136 :: jk 137 :: jk 138 :: jk 139 :: jk 140 :: jk 141 :: jk 142 :: jk 143 :: jk 144 :: jk 145 :: jk 146 :: jk 147 :: jk 148 :: jk 149 :: jk 150 :: jk 151 :: jk 152 :: jk 153 :: jk 154 :: jk 155 :: jk 156 :: jk 157 :: jk 158 :: jk 159 :: jk 160 :: jk 161 :: jk 162 :: jk 163 :: jk 164 :: jk 165 :: jk 166 :: jk 167 :: jk 168 :: jk 169 :: jk 170 :: jk 171 :: jk 172 :: jk 173 :: jk 174 :: jk 175 :: jk 176 :: jk 177 :: jk 178 :: jk 179 :: jk 180 :: jk 181 :: jk 182 :: jk 183 :: jk 184 :: jk 185 :: jk 186 :: jk 187 :: jk 188 :: jk 189 :: jk 190 :: jk 191 :: jk 192 :: jk 193 :: jk 194 :: jk 195 :: jk 196 :: jk 197 :: jk 198 :: jk 199 :: jk 200 :: jk 201 :: jk 202 :: jk 203 :: jk 204 :: jk 205 :: jk 206 :: jk 207 :: jk 208 :: jk 209 :: jk 210 :: jk 211 :: jk 212 :: []), []⟩ : Act)) σ a u := by
  have hs := hL.no
  obtain ⟨jk, rfl⟩ := ha
  repeat (first | (first | refine codeY_seq ?_ | refine codeY_ret ?_ | refine codeY_skip ?_ | refine codeY_exit ?_ | refine codeY_label ?_ | refine thenY_n ?_ | refine thenY_e ?_ | refine thenY_r ?_ | refine blockY_n ?_ | refine blockY_e ?_ | refine blockY_r ?_ | refine blockY_o rfl ?_ | refine codeY_condT rfl ?_ | refine codeY_condF rfl ?_) | (refine codeY_region_k (fun K hK => ?_); simp only [List.size_toArray, List.length_cons, List.length_nil, Nat.reduceAdd, Nat.zero_add, List.range, List.range.loop]) | (refine opsY_nil ?_; refine hK _ _ _ _ ?_; clear hK K) | (first | (first | (refine opsY_move rfl rfl ?_; walk_nrm) | (refine opsY_assign rfl rfl ?_; walk_nrm)) | (refine opsY_unwanted rfl rfl ?_; walk_nrm) | (refine opsY_nw rfl rfl (nw_of (by rfl)) (fun Ky hKy => ?_); go_simp; refine hKy _ _ ⟨rfl, fun Kx => ?_⟩; clear Kx hKy Ky)))
  refine codeY_mono (co_stop (q := q) (cn := cn) (m := m) (cm := cm) (s := s) hL hl hn h0 ?_) ?_
  · exact junk_intro _ rfl
  clear h0 jk ov st
  rintro s' e a u ⟨rfl, rfl, ov, st, h1, jk, rfl⟩
  obtain ⟨ad, rfl, c1, _⟩ := hm.c s hsm
  have c1 := h1.f.ch.cell_is c1 (fun x => x)
  have hs0 : (0 : Int) ≤ s := by omega
  have hsm' : (s : Int) < m := by omega
  have hd := ddv_range (x := St s) (m := 300) (by omega)
  have w1 := wrap64 (x := (St s).tmod 300) (by omega) (by omega)
  have w2 := wrap64 (x := -(St s).tmod 300) (by omega) (by omega)
  repeat (first | (first | refine codeY_seq ?_ | refine codeY_ret ?_ | refine codeY_skip ?_ | refine codeY_exit ?_ | refine codeY_label ?_ | refine thenY_n ?_ | refine thenY_e ?_ | refine thenY_r ?_ | refine blockY_n ?_ | refine blockY_e ?_ | refine blockY_r ?_ | refine blockY_o rfl ?_ | refine codeY_condT rfl ?_ | refine codeY_condF rfl ?_) | (refine codeY_region_k (fun K hK => ?_); simp only [List.size_toArray, List.length_cons, List.length_nil, Nat.reduceAdd, Nat.zero_add, List.range, List.range.loop]) | (refine opsY_nil ?_; refine hK _ _ _ _ ?_; clear hK K) | (first | (first | (refine opsY_move rfl rfl ?_; walk_nrm) | (refine opsY_assign rfl rfl ?_; walk_nrm)) | (refine opsY_unwanted rfl rfl ?_; walk_nrm) | (refine opsY_nw rfl rfl (nw_of (by rfl)) (fun Ky hKy => ?_); go_simp; refine hKy _ _ ⟨rfl, fun Kx => ?_⟩; clear Kx hKy Ky)))
  refine codeY_mono (Q := fun s'' e a u' => s'' = s' ∧ u = u' ∧ e = .normal ∧ ∃ jk : Nat → Value, a = (⟨List.toArray ((.slice p n cn : Value) :: (.slice (some ad) m cm : Value) :: jk 2 :: jk 3 :: (.bool false : Value) :: (.pointer (some ⟨W.heap.size + 2, 0, none⟩) : Value) :: (.pointer (some ⟨W.heap.size + 35, 0, none⟩) : Value) :: (tv : Value) :: (.slice (some ⟨W.heap.size + 36, 0, none⟩) n n : Value) :: jk 9 :: jk 10 :: jk 11 :: jk 12 :: (.int .i64 now : Value) :: (.int .i64 s : Value) :: jk 15 :: (.int .i64 (ddv (St s) 300) : Value) :: jk 17 :: jk 18 :: jk 19 :: jk 20 :: jk 21 :: jk 22 :: jk 23 :: jk 24 :: jk 25 :: jk 26 :: jk 27 :: jk 28 :: jk 29 :: jk 30 :: jk 31 :: jk 32 :: jk 33 :: jk 34 :: jk 35 :: jk 36 :: jk 37 :: jk 38 :: jk 39 :: jk 40 :: jk 41 :: jk 42 :: jk 43 :: jk 44 :: jk 45 :: jk 46 :: jk 47 :: jk 48 :: jk 49 :: jk 50 :: jk 51 :: jk 52 :: jk 53 :: jk 54 :: jk 55 :: jk 56 :: jk 57 :: jk 58 :: jk 59 :: jk 60 :: jk 61 :: jk 62 :: jk 63 :: jk 64 :: jk 65 :: jk 66 :: jk 67 :: jk 68 :: jk 69 :: jk 70 :: jk 71 :: jk 72 :: jk 73 :: jk 74 :: jk 75 :: jk 76 :: jk 77 :: jk 78 :: jk 79 :: jk 80 :: jk 81 :: jk 82 :: jk 83 :: jk 84 :: jk 85 :: jk 86 :: jk 87 :: jk 88 :: jk 89 :: jk 90 :: jk 91 :: jk 92 :: jk 93 :: jk 94 :: jk 95 :: jk 96 :: jk 97 :: jk 98 :: jk 99 :: jk 100 :: jk 101 :: jk 102 :: jk 103 :: jk 104 :: jk 105 :: jk 106 :: jk 107 :: jk 108 :: jk 109 :: jk 110 :: jk 111 :: jk 112 :: jk 113 :: jk 114 :: jk 115 :: jk 116 :: jk 117 :: jk 118 :: jk 119 :: jk 120 :: jk 121 :: jk 122 :: jk 123 :: jk 124 :: jk 125 :: jk 126 :: jk 127 :: jk 128 :: jk 129 :: jk 130 :: jk 131 :: jk 132 :: jk 133 :: jk 134 :: jk 135 :: jk 136 :: jk 137 :: jk 138 :: jk 139 :: jk 140 :: jk 141 :: jk 142 :: jk 143 :: jk 144 :: jk 145 :: jk 146 :: jk 147 :: jk 148 :: jk 149 :: jk 150 :: jk 151 :: jk 152 :: jk 153 :: jk 154 :: jk 155 :: jk 156 :: jk 157 :: jk 158 :: jk 159 :: jk 160 :: jk 161 :: jk 162 :: jk 163 :: jk 164 :: jk 165 :: jk 166 :: jk 167 :: jk 168 :: jk 169 :: jk 170 :: jk 171 :: jk 172 :: jk 173 :: jk 174 :: jk 175 :: jk 176 :: jk 177 :: jk 178 :: jk 179 :: jk 180 :: jk 181 :: jk 182 :: jk 183 :: jk 184 :: jk 185 :: jk 186 :: jk 187 :: jk 188 :: jk 189 :: jk 190 :: jk 191 :: jk 192 :: jk 193 :: jk 194 :: jk 195 :: jk 196 :: jk 197 :: jk 198 :: jk 199 :: jk 200 :: jk 201 :: jk 202 :: jk 203 :: jk 204 :: jk 205 :: jk 206 :: jk 207 :: jk 208 :: jk 209 :: jk 210 :: jk 211 :: jk 212 :: []), []⟩ : Act)) ?_ ?_
  · refine codeY_cond_split rfl (fun ht => ?_) (fun hf => ?_)
    · have h : (St s).tmod 300 < 0 := by simpa using ht
      have e : ddv (St s) 300 = -(St s).tmod 300 := by unfold ddv; rw [if_pos h]
      rw [e]
      repeat (first | (first | refine codeY_seq ?_ | refine codeY_block ?_ | refine codeY_ret ?_ | refine codeY_skip ?_ | refine codeY_exit ?_ | refine codeY_label ?_ | refine thenY_n ?_ | refine thenY_e ?_ | refine thenY_r ?_ | refine blockY_n ?_ | refine blockY_e ?_ | refine blockY_r ?_ | refine blockY_o rfl ?_ | refine codeY_condT rfl ?_ | refine codeY_condF rfl ?_) | (refine codeY_region_k (fun K hK => ?_); simp only [List.size_toArray, List.length_cons, List.length_nil, Nat.reduceAdd, Nat.zero_add, List.range, List.range.loop]) | (refine opsY_nil ?_; refine hK _ _ _ _ ?_; clear hK K) | (first | (first | (refine opsY_move rfl rfl ?_; walk_nrm) | (refine opsY_assign rfl rfl ?_; walk_nrm)) | (refine opsY_unwanted rfl rfl ?_; walk_nrm) | (refine opsY_nw rfl rfl (nw_of (by rfl)) (fun Ky hKy => ?_); go_simp; refine hKy _ _ ⟨rfl, fun Kx => ?_⟩; clear Kx hKy Ky)))
      exact ⟨rfl, rfl, rfl, junk_intro _ rfl⟩
    · have h : ¬ (St s).tmod 300 < 0 := by simpa using hf
      have e : ddv (St s) 300 = (St s).tmod 300 := by unfold ddv; rw [if_neg h]
      rw [e]
      repeat (first | (first | refine codeY_seq ?_ | refine codeY_block ?_ | refine codeY_ret ?_ | refine codeY_skip ?_ | refine codeY_exit ?_ | refine codeY_label ?_ | refine thenY_n ?_ | refine thenY_e ?_ | refine thenY_r ?_ | refine blockY_n ?_ | refine blockY_e ?_ | refine blockY_r ?_ | refine blockY_o rfl ?_ | refine codeY_condT rfl ?_ | refine codeY_condF rfl ?_) | (refine codeY_region_k (fun K hK => ?_); simp only [List.size_toArray, List.length_cons, List.length_nil, Nat.reduceAdd, Nat.zero_add, List.range, List.range.loop]) | (refine opsY_nil ?_; refine hK _ _ _ _ ?_; clear hK K) | (first | (first | (refine opsY_move rfl rfl ?_; walk_nrm) | (refine opsY_assign rfl rfl ?_; walk_nrm)) | (refine opsY_unwanted rfl rfl ?_; walk_nrm) | (refine opsY_nw rfl rfl (nw_of (by rfl)) (fun Ky hKy => ?_); go_simp; refine hKy _ _ ⟨rfl, fun Kx => ?_⟩; clear Kx hKy Ky)))
      exact ⟨rfl, rfl, rfl, junk_intro _ rfl⟩
  clear w1 w2 jk
  rintro s'' e a u' ⟨rfl, rfl, rfl, jk, rfl⟩
  obtain ⟨D, hD⟩ : ∃ D, D = ddv (St s) 300 := ⟨_, rfl⟩
  rw [← hD]
  rw [← hD] at hd
  clear hD c1
  have w3 := wrap64 (x := now + D) (by omega) (by omega)
  have hrc := obj_cell (o := 0) (v := rv) h1.f.rg rfl
  repeat (first | (first | refine codeY_seq ?_ | refine codeY_ret ?_ | refine codeY_skip ?_ | refine codeY_exit ?_ | refine codeY_label ?_ | refine thenY_n ?_ | refine thenY_e ?_ | refine thenY_r ?_ | refine blockY_n ?_ | refine blockY_e ?_ | refine blockY_r ?_ | refine blockY_o rfl ?_ | refine codeY_condT rfl ?_ | refine codeY_condF rfl ?_) | (refine codeY_region_k (fun K hK => ?_); simp only [List.size_toArray, List.length_cons, List.length_nil, Nat.reduceAdd, Nat.zero_add, List.range, List.range.loop]) | (refine opsY_nil ?_; refine hK _ _ _ _ ?_; clear hK K) | (first | (first | (refine opsY_move rfl rfl ?_; walk_nrm) | (refine opsY_assign rfl rfl ?_; walk_nrm)) | (refine opsY_unwanted rfl rfl ?_; walk_nrm) | (refine opsY_nw rfl rfl (nw_of (by rfl)) (fun Ky hKy => ?_); go_simp; refine hKy _ _ ⟨rfl, fun Kx => ?_⟩; clear Kx hKy Ky)))
  (refine opsY_store1 rfl rfl (by kernel_rfl) rfl rfl rfl rfl hrc (obj_fz h1.f.rg _) (hs _) ?_; walk_nrm)
  have hg2 := heap_setCell_cells (a := ⟨W.heap.size + 35, 0, none⟩) (v := .slice none 0 0) h1.f.rg rfl
  have hF2 : CoF W (u.setCell ⟨W.heap.size + 35, 0, none⟩ (.slice none 0 0)) n X tv (.slice none 0 0) ov := h1.f.gen ((Chg.refl _ u).setCell (a := ⟨W.heap.size + 35, 0, none⟩) _ (.inl (.inr rfl))) hg2
  have hC2 : Clk (u.setCell ⟨W.heap.size + 35, 0, none⟩ (.slice none 0 0)) W.heap.size now 0 st due fs := h1.clk.other (a := ⟨W.heap.size + 35, 0, none⟩) _ (fun x => by have := x.2; simp only at this; omega)
  clear hrc hg2
  revert hF2 hC2
  generalize u.setCell ⟨W.heap.size + 35, 0, none⟩ (.slice none 0 0) = u2
  intro hF2 hC2
  have hB : CoB u2 W.heap.size n st fs X := ⟨hn, fun j => by
    rcases Nat.lt_or_ge j n with x | x
    · rcases h1.s j x with ⟨y, _⟩ | ⟨y, _⟩
      · exact .inr (.inl y)
      · exact .inr (.inr y)
    · exact .inl (h1.s0 j x), fun j hj => by
    rcases Nat.lt_or_ge j n with x | x
    · exact x
    · rw [h1.s0 j x] at hj; omega, h1.fs, fun j hj => obj_cell (hF2.x j hj).1 rfl, fun j hj => by have := (hF2.x j hj).2; omega, by have := hF2.ol; omega⟩
  have hmin : now + min D (4611686018427387904 - now) = now + D := by omega
  repeat (first | (first | refine codeY_seq ?_ | refine codeY_ret ?_ | refine codeY_skip ?_ | refine codeY_exit ?_ | refine codeY_label ?_ | refine thenY_n ?_ | refine thenY_e ?_ | refine thenY_r ?_ | refine blockY_n ?_ | refine blockY_e ?_ | refine blockY_r ?_ | refine blockY_o rfl ?_ | refine codeY_condT rfl ?_ | refine codeY_condF rfl ?_) | (refine codeY_region_k (fun K hK => ?_); simp only [List.size_toArray, List.length_cons, List.length_nil, Nat.reduceAdd, Nat.zero_add, List.range, List.range.loop]) | (refine opsY_nil ?_; refine hK _ _ _ _ ?_; clear hK K) | (first | (first | (refine opsY_move rfl rfl ?_; walk_nrm) | (refine opsY_assign rfl rfl ?_; walk_nrm)) | (refine opsY_unwanted rfl rfl ?_; walk_nrm) | (refine opsY_nw rfl rfl (nw_of (by rfl)) (fun Ky hKy => ?_); go_simp; refine hKy _ _ ⟨rfl, fun Kx => ?_⟩; clear Kx hKy Ky)))
  (refine opsY_callR (advance_is (d := D) hL hC2 (by omega) hn0 (by omega) (co_rings hL hB) (ri_zero hB hF2.rg)) rfl rfl rfl (by first | rfl | (simp [Act.eval]; done) | (simp [Act.eval]; rfl) | (simp [Act.eval]; exact ⟨rfl, rfl⟩)) ?_)
  rw [hmin]
  rintro s5 v u3 ⟨rfl, r, st', due', fs', hr, rfl, hC3, ⟨L, v, hI⟩, hend⟩
  obtain ⟨rfl, rfl⟩ : due' = due ∧ fs' = fs := ⟨hI.due, hI.fs⟩
  have hlen := hI.len
  subst hlen
  have hr16 : L.length ≤ 16 := by have := hI.cn; omega
  have hend := hend.resolve_left (by omega)
  have hF3 := hF2.gen hI.ch hI.obj
  have hR := hI.row
  obtain ⟨vp, vc, rfl⟩ := own_val hR
  have hrv := obj_cell (o := 0) (v := .slice vp L.length vc) hI.obj rfl
  have hin : ∀ j, j ∈ L → st' j = 4 ∧ st j = 2 := fun j hj => ⟨(hI.inn j hj).1, (hI.inn j hj).2.1⟩
  have hA1 := (co_after (ov2 := fun j => ov j || decide (j ∈ L)) h1 hin hI.out (fun j => by simp)).1
  have hLm : ∀ j, j ∈ L → j < n ∧ ov j = false ∧ ddv (At j) 1000 ≤ now + D := fun j hj => ⟨(hA1 j hj).1, (hA1 j hj).2, by rw [← h1.due j (hA1 j hj).1]; exact (hI.inn j hj).2.2.2⟩
  have hpw : L.Pairwise (lex fun j => ddv (At j) 1000) := List.pairwise_iff_getElem.2 (fun i j hi hj hij => by
    have := List.pairwise_iff_getElem.1 hI.pw i j hi hj hij
    unfold lex at this ⊢
    rw [h1.due _ (hA1 _ (List.getElem_mem hi)).1, h1.due _ (hA1 _ (List.getElem_mem hj)).1] at this
    exact this)
  have hout := hI.out
  have hol2 := hF2.ol
  clear hI hr hB
  walk_nrm
  repeat (first | (first | refine codeY_seq ?_ | refine codeY_ret ?_ | refine codeY_skip ?_ | refine codeY_exit ?_ | refine codeY_label ?_ | refine thenY_n ?_ | refine thenY_e ?_ | refine thenY_r ?_ | refine blockY_n ?_ | refine blockY_e ?_ | refine blockY_r ?_ | refine blockY_o rfl ?_ | refine codeY_condT rfl ?_ | refine codeY_condF rfl ?_) | (refine codeY_region_k (fun K hK => ?_); simp only [List.size_toArray, List.length_cons, List.length_nil, Nat.reduceAdd, Nat.zero_add, List.range, List.range.loop]) | (refine opsY_nil ?_; refine hK _ _ _ _ ?_; clear hK K) | (first | (first | (refine opsY_move rfl rfl ?_; walk_nrm) | (refine opsY_assign rfl rfl ?_; walk_nrm)) | (refine opsY_unwanted rfl rfl ?_; walk_nrm) | (refine opsY_nw rfl rfl (nw_of (by rfl)) (fun Ky hKy => ?_); go_simp; refine hKy _ _ ⟨rfl, fun Kx => ?_⟩; clear Kx hKy Ky)))
  (refine opsY_callTo (cnow_is hC3.cnow hC3.now) rfl rfl rfl (by first | rfl | (simp [Act.eval]; done) | (simp [Act.eval]; rfl) | (simp [Act.eval]; exact ⟨rfl, rfl⟩)) ?_; walk_nrm)
  repeat (first | (first | refine codeY_seq ?_ | refine codeY_ret ?_ | refine codeY_skip ?_ | refine codeY_exit ?_ | refine codeY_label ?_ | refine thenY_n ?_ | refine thenY_e ?_ | refine thenY_r ?_ | refine blockY_n ?_ | refine blockY_e ?_ | refine blockY_r ?_ | refine blockY_o rfl ?_ | refine codeY_condT rfl ?_ | refine codeY_condF rfl ?_) | (refine codeY_region_k (fun K hK => ?_); simp only [List.size_toArray, List.length_cons, List.length_nil, Nat.reduceAdd, Nat.zero_add, List.range, List.range.loop]) | (refine opsY_nil ?_; refine hK _ _ _ _ ?_; clear hK K) | (first | (first | (refine opsY_move rfl rfl ?_; walk_nrm) | (refine opsY_assign rfl rfl ?_; walk_nrm)) | (refine opsY_unwanted rfl rfl ?_; walk_nrm) | (refine opsY_nw rfl rfl (nw_of (by rfl)) (fun Ky hKy => ?_); go_simp; refine hKy _ _ ⟨rfl, fun Kx => ?_⟩; clear Kx hKy Ky)))
  refine codeY_mono (co_rang (q := some ad) (cn := cn) (m := m) (cm := cm) (s := s) hL hl hn hF3 hC3 hR (by omega) hr16 hLm hpw ?_) ?_
  · exact junk_intro _ rfl
  clear hF3 hC3 hR hrv
  rintro s6 e a u4 ⟨rfl, rfl, ov2, hF4, hC4, hov, jk, rfl⟩
  obtain ⟨_, hA2, hA3⟩ := co_after (ov2 := ov2) h1 hin hout hov
  repeat (first | (first | refine codeY_seq ?_ | refine codeY_ret ?_ | refine codeY_skip ?_ | refine codeY_exit ?_ | refine codeY_label ?_ | refine thenY_n ?_ | refine thenY_e ?_ | refine thenY_r ?_ | refine blockY_n ?_ | refine blockY_e ?_ | refine blockY_r ?_ | refine blockY_o rfl ?_ | refine codeY_condT rfl ?_ | refine codeY_condF rfl ?_) | (refine codeY_region_k (fun K hK => ?_); simp only [List.size_toArray, List.length_cons, List.length_nil, Nat.reduceAdd, Nat.zero_add, List.range, List.range.loop]) | (refine opsY_nil ?_; refine hK _ _ _ _ ?_; clear hK K) | (first | (first | (refine opsY_move rfl rfl ?_; walk_nrm) | (refine opsY_assign rfl rfl ?_; walk_nrm)) | (refine opsY_unwanted rfl rfl ?_; walk_nrm) | (refine opsY_nw rfl rfl (nw_of (by rfl)) (fun Ky hKy => ?_); go_simp; refine hKy _ _ ⟨rfl, fun Kx => ?_⟩; clear Kx hKy Ky)))
  refine codeY_mono (co_due (q := some ad) (cn := cn) (m := m) (cm := cm) (s := s) (now := now + D) hL hl hn hF4 (fun j hj hoj => ?_) ?_) ?_
  · rw [← h1.due j hj]
    have h2 : st' j = 2 := by
      rcases hA2 j hj with ⟨x, _⟩ | ⟨_, x⟩
      · exact x
      · rw [hoj] at x; cases x
    have := hend j (by omega)
    have : ¬ due' j ≤ now + D := fun x => this ⟨by rw [h2]; decide, x⟩
    omega
  · exact junk_intro _ rfl
  rintro s7 e a u5 ⟨rfl, rfl, rfl, jk, rfl⟩
  exact ⟨rfl, rfl, now + D, ov2, st', _, by omega, by omega, ⟨hF4, hC4, h1.due, h1.fs, hA2, hA3⟩, junk_intro _ rfl⟩
end Go.Proofs.Ythnfheohfnhcpaa.Y
