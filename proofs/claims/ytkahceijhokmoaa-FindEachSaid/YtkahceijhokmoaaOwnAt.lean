/- A slice of the call's own that begins anywhere in its row: append of one element. No program in sight. -/
import Derived.Test.YtkahceijhokmoaaOwn
import Derived.ArgAppend
namespace Go.Proofs.Ytkahceijhokmoaa
open Go.RowKit
set_option linter.unusedVariables false
set_option linter.unusedSimpArgs false
/-- n elements of type e, of so many cells each, lie in block g from cell off on; there is room for cap of them -/
structure OwnsAt (w : World) (B : Nat) (e : TypeId) (size g off n cap : Nat) (xs : List Value) : Prop where
  len : xs.length = n * size
  base : B ≤ g
  le : n ≤ cap
  max : cap ≤ maxLen
  row : ∃ cur, w.heap[g]? = some (.cells cur e (0, 0)) ∧ off + cap * size ≤ cur.size ∧ ∀ i, i < xs.length → cur[off + i]? = xs[i]?
section
variable {w w' : World} {B : Nat} {e : TypeId} {size g off n cap : Nat} {xs : List Value}
theorem OwnsAt.lt (h : OwnsAt w B e size g off n cap xs) : g < w.heap.size := by
  obtain ⟨cur, h1, _⟩ := h.row
  rcases Nat.lt_or_ge g w.heap.size with hlt | hge
  · exact hlt
  · rw [Array.getElem?_eq_none hge] at h1; cases h1
theorem OwnsAt.rowAt (h : OwnsAt w B e size g off n cap xs) : RowAt w g off e xs := by
  obtain ⟨cur, h1, h2, h3⟩ := h.row
  exact ⟨cur, _, h1, h3, fun i _ _ => by simp⟩
theorem OwnsAt.keep (h : OwnsAt w B e size g off n cap xs) (hh : w'.heap[g]? = w.heap[g]?) : OwnsAt w' B e size g off n cap xs := by
  obtain ⟨cur, h1, h2⟩ := h.row
  exact ⟨h.len, h.base, h.le, h.max, cur, hh.trans h1, h2⟩
theorem OwnsAt.below {B' : Nat} (h : OwnsAt w B e size g off n cap xs) (hb : Below B' w w') (hB : g < B') : OwnsAt w' B e size g off n cap xs := h.keep (hb.block _ hB)
theorem OwnsAt.alloc (h : OwnsAt w B e size g off n cap xs) (o : Obj) : OwnsAt (w.alloc o) B e size g off n cap xs := h.keep (Below.heap_alloc w o _ h.lt)
theorem OwnsAt.drop (h : OwnsAt w B e size g off n cap xs) (k : Nat) (hk : k ≤ n) : OwnsAt w B e size g (off + k * size) (n - k) (cap - k) (xs.drop (k * size)) := by
  obtain ⟨cur, h1, h2, h3⟩ := h.row
  have hle := h.le
  have hl : (xs.drop (k * size)).length = (n - k) * size := by rw [List.length_drop, h.len, Nat.sub_mul]
  refine ⟨hl, h.base, by omega, by have := h.max; omega, cur, h1, ?_, fun i hi => ?_⟩
  · have : k * size + (cap - k) * size = cap * size := by rw [← Nat.add_mul]; congr 1; omega
    omega
  · rw [List.getElem?_drop, ← h3 (k * size + i) (by rw [List.length_drop] at hi; omega)]
    congr 1
    omega
theorem Owns.at_ (h : Owns w B e size (some ⟨g, 0, none⟩) n cap xs) : OwnsAt w B e size g 0 n cap xs := by
  rcases h.2 with ⟨h1, _⟩ | ⟨g', cp, cur, h1, h2, h3, h4, h5, h6, h7⟩
  · cases h1
  · cases h1
    refine ⟨h.1, h2, h4, h5, cur, h3, by rw [h6]; omega, fun i hi => ?_⟩
    rw [← h7, List.getElem?_take, if_pos (by rw [h.1] at hi; exact hi), Nat.zero_add]
    simp
end
theorem setCells_row (b : Nat) (e : TypeId) (fz : Nat × Nat) : ∀ (vs : List Value) (o : Nat) (w : World) (cur : Array Value), w.heap[b]? = some (.cells cur e fz) → o + vs.length ≤ cur.size →
    ∃ cur', (w.setCells b o vs).heap[b]? = some (.cells cur' e fz) ∧ cur'.size = cur.size ∧ ∀ k, cur'[k]? = if o ≤ k ∧ k < o + vs.length then vs[k - o]? else cur[k]? := by
  intro vs
  induction vs with
  | nil => intro o w cur h _; exact ⟨cur, h, rfl, fun k => by rw [if_neg (by simp)]⟩
  | cons v vs ih =>
    intro o w cur h hf
    rw [List.length_cons] at hf
    have h1 : (w.setCell ⟨b, o, none⟩ v).heap[b]? = some (.cells (cur.setIfInBounds o v) e fz) := by simp [World.setCell, Array.getElem?_modify, h]
    obtain ⟨cur', a1, a2, a3⟩ := ih (o + 1) (w.setCell ⟨b, o, none⟩ v) _ h1 (by simp; omega)
    refine ⟨cur', a1, by simpa using a2, fun k => ?_⟩
    rw [a3 k, Array.getElem?_setIfInBounds, List.length_cons]
    by_cases hk : o = k
    · subst hk
      rw [if_neg (by omega), if_pos rfl, if_pos (by omega), if_pos (by omega), Nat.sub_self]
      rfl
    · rw [if_neg hk]
      by_cases hk2 : o + 1 ≤ k ∧ k < o + 1 + vs.length
      · rw [if_pos hk2, if_pos (by omega), show k - o = (k - (o + 1)) + 1 from by omega, List.getElem?_cons_succ]
      · rw [if_neg hk2, if_neg (by omega)]
theorem setCells_grown (b : Nat) : ∀ (vs : List Value) (o : Nat) (w : World), w.grownBy (w.setCells b o vs) (some b) := by
  intro vs
  induction vs with
  | nil => intro o w; exact grown_refl w _
  | cons v vs ih =>
    intro o w
    have h1 : w.grownBy (w.setCell ⟨b, o, none⟩ v) (some b) := grown_set (grown_refl w _) rfl v
    exact h1.trans (ih (o + 1) _)
theorem setCells_size (b : Nat) : ∀ (vs : List Value) (o : Nat) (w : World), (w.setCells b o vs).heap.size = w.heap.size := by
  intro vs
  induction vs with
  | nil => intro o w; rfl
  | cons v vs ih => intro o w; rw [World.setCells, ih]; simp
/-- 'append(s, x)' of one element where s begins anywhere in its row -/
theorem run_pushAt {P : Program} (w : World) (t ty : TypeId) (B : Nat) (e : TypeId) (z : Value) (size bytes : Nat) (ht : P.underlying t = some (.slice e)) (hinf : (P.info? e).map (fun i => (i.zero, i.size, i.bytes)) = some (some z, size, bytes)) (hzs : z.cells.size = size) (hsz : 0 < size)
    (g off n cap : Nat) (xs : List Value) (hown : OwnsAt w B e size g off n cap xs) (W c : Nat) (news : List Value) (hl : news.length = size) (h1 : ∀ u ∈ news, u.oneCell' = true) (hrow : RowAt w W 0 e news)
    (h63 : n + 1 ≤ maxLen) (hbytes : (n + 1) * bytes ≤ 140737488355328) (hbase : B ≤ w.heap.size) :
    ∃ g' off' cap' w', (Builtin.append_ #[t, t] ty #[.slice (some ⟨g, off, none⟩) n cap, .slice (some ⟨W, 0, none⟩) 1 c]).run P w = .ok (.slice (some ⟨g', off', none⟩) (n + 1) cap') w' ∧
      OwnsAt w' B e size g' off' (n + 1) cap' (xs ++ news) ∧ w.grownBy w' (some g) ∧ (g' = g ∨ w.heap.size ≤ g') := by
  obtain ⟨i, hi, hz, hsize, hby⟩ := info_parts hinf
  have hadd0 : ∀ b k j : Nat, (⟨b, k, none⟩ : Addr).add j = ⟨b, k + j, none⟩ := by intro b k j; unfold Addr.add; split <;> simp_all
  have hnews : ∀ j u, news[j]? = some u → w.cell? ((⟨W, 0, none⟩ : Addr).add j) = some u := by
    intro j u hj
    have hlt : j < news.length := by
      rcases Nat.lt_or_ge j news.length with h | h
      · exact h
      · rw [List.getElem?_eq_none h] at hj; cases hj
    rw [hadd0, Nat.zero_add, hrow.cell0 j hlt, ← hj, List.getElem?_eq_getElem hlt]
  obtain ⟨cur, c1, c2, c3⟩ := hown.row
  have hlen := hown.len
  have hle := hown.le
  have hmax := hown.max
  subst hsize
  have hl1 : news.length = 1 * i.size := by rw [hl, Nat.one_mul]
  by_cases hroom : n + 1 ≤ cap
  · have hcs : n * i.size + i.size ≤ cap * i.size := by rw [← Nat.succ_mul]; exact Nat.mul_le_mul_right _ hroom
    have hc : ∀ j, j < news.length → (w.cell? ⟨g, off + n * i.size + j, none⟩).isSome = true := by
      intro j hj
      rw [cell_of_row _ g _ cur e _ c1, Array.getElem?_eq_getElem (by omega)]
      rfl
    have hf : ∀ j, j < news.length → w.frozen? ⟨g, off + n * i.size + j, none⟩ = false := fun j hj => frozen_of_row _ g _ cur e c1
    have hr := run_append_room_cells (P := P) w t ty e i ht hi g off n cap ⟨W, 0, none⟩ 1 c news hl1 hnews h1 hroom hc hf
    refine ⟨g, off, cap, _, hr, ?_, setCells_grown g news _ _, .inl rfl⟩
    refine ⟨by rw [List.length_append, hlen, hl, Nat.add_mul, Nat.one_mul], hown.base, hroom, hmax, ?_⟩
    obtain ⟨cur', d1, d2, d3⟩ := setCells_row g e (0, 0) news (off + n * i.size) w cur c1 (by omega)
    refine ⟨cur', d1, by omega, fun k hk => ?_⟩
    rw [List.length_append, hlen, hl] at hk
    rw [d3]
    by_cases hkn : k < n * i.size
    · rw [if_neg (by omega), c3 k (by omega), List.getElem?_append_left (by omega)]
    · rw [if_pos (by omega), List.getElem?_append_right (by omega), hlen]
      congr 1
      omega
  · have holds : ∀ j u, xs[j]? = some u → w.cell? ((⟨g, off, none⟩ : Addr).add j) = some u := by
      intro j u hj
      have hlt : j < xs.length := by
        rcases Nat.lt_or_ge j xs.length with h | h
        · exact h
        · rw [List.getElem?_eq_none h] at hj; cases hj
      rw [hadd0, cell_of_row _ g _ cur e _ c1, c3 j hlt, hj]
    have hby' : (n + 1) * i.bytes ≤ 140737488355328 := by rw [hby]; exact hbytes
    have hm2 : n + 1 ≤ 9223372036854775807 := by unfold maxLen at h63; exact h63
    have hr := run_append_grow (P := P) w t ty e i z ht hi hz ⟨g, off, none⟩ n cap xs hlen holds ⟨W, 0, none⟩ 1 c news hl1 hnews (by omega) (by omega) (growslice_fits (by omega) hby')
    have hcge := grownCap_ge w (n + 1) cap e
    have hcle := grownCap_le_maxLen w (n + 1) cap e h63
    refine ⟨_, _, _, _, hr, ?_, ⟨rfl, rfl, rfl, by simp, fun k hk _ => heap_alloc_old _ _ hk⟩, .inr (Nat.le_refl _)⟩
    refine ⟨by rw [List.length_append, hlen, hl, Nat.add_mul, Nat.one_mul], hbase, hcge, hcle, _, heap_alloc_new _ _, ?_, fun k hk => ?_⟩
    · simp only [Array.size_append, List.size_toArray, size_zeroCells, hzs, hlen, hl]
      have : (n + 1) * i.size + (grownCap w (n + 1) cap e - (n + 1)) * i.size = grownCap w (n + 1) cap e * i.size := by rw [← Nat.add_mul]; congr 1; omega
      rw [Nat.add_mul, Nat.one_mul] at this
      omega
    · rw [Nat.zero_add, Array.getElem?_append_left (by simp at hk ⊢; exact hk)]
      simp
theorem step_pushAt {P : Program} (w : World) {ops : Array Oper} {o : Oper} {act : Act} {K : Act → World → Prop} {Q : Exit → Act → World → Prop} {E : Prop} (hgd : o.guard = none) (s x : Operand) (t : TypeId)
    (ho : o.op = .call { callee := .builtin .append, args := #[s, x], argTypes := #[t, t] })
    (B : Nat) (e : TypeId) (z : Value) (size bytes : Nat) (ht : P.underlying t = some (.slice e)) (hinf : (P.info? e).map (fun i => (i.zero, i.size, i.bytes)) = some (some z, size, bytes)) (hzs : z.cells.size = size) (hsz : 0 < size)
    (g off n cap : Nat) (xs : List Value) (hs : act.eval s = .slice (some ⟨g, off, none⟩) n cap) (hown : OwnsAt w B e size g off n cap xs)
    (W c : Nat) (news : List Value) (hl : news.length = size) (h1 : ∀ u ∈ news, u.oneCell' = true) (hx : act.eval x = .slice (some ⟨W, 0, none⟩) 1 c) (hrow : RowAt w W 0 e news)
    (h63 : n + 1 ≤ maxLen) (hbytes : (n + 1) * bytes ≤ 140737488355328) (hbase : B ≤ w.heap.size)
    (h : ∀ g' off' cap' w', OwnsAt w' B e size g' off' (n + 1) cap' (xs ++ news) → w.grownBy w' (some g) → (g' = g ∨ w.heap.size ≤ g') → K (act.put o.dst (.slice (some ⟨g', off', none⟩) (n + 1) cap')) w') :
    if Region.wanted o (yielded ops act.tmps) = true then Oper.wp P o act w K Q else E := by
  have hw : Region.wanted o (yielded ops act.tmps) = true := by simp [Region.wanted, hgd]
  rw [if_pos hw]
  obtain ⟨g', off', cap', w', hr, h2, h3, h4⟩ := run_pushAt (P := P) w t o.type B e z size bytes ht hinf hzs hsz g off n cap xs hown W c news hl h1 hrow h63 hbytes hbase
  unfold Oper.wp execOp
  simp only [ho, resolve, invoke, builtin, Sem.run_bind, Sem.run_pure, Result.andThen_ok, List.map_toArray, List.map_cons, List.map_nil, hs, hx, hr]
  exact h g' off' cap' w' h2 h3 h4
end Go.Proofs.Ytkahceijhokmoaa
