/- Contract of lex.next. -/
import Derived.Maps.AppendAt
import Derived.Laws.AppendOwnNone
import Derived.Test.YtlomecfhobehnaaGreatDoorChecked
import Derived.Laws.Rows
import Derived.Test.YtlomecfhobehnaaGreatDoorMgLayoutBack0
section
/- A slice that the call itself has made: what it holds; append of one element; reading and writing. No program in sight. -/
namespace Go.Proofs.YtlomecfhobehnaaGreatDoor
open Go.RowKit
set_option linter.unusedVariables false
set_option linter.unusedSimpArgs false

/-- a slice of n elements of type e, of so many cells each, that lies at the head of a row from block B on, and holds xs (none: it is nil) -/
def Owns (w : World) (B : Nat) (e : TypeId) (size : Nat) (a : Option Addr) (n cap : Nat) (xs : List Value) : Prop := w.ownsRow B e size (.slice a n cap) n xs
def blk (a : Option Addr) : Option Nat := a.map Addr.block
theorem ownBlock_eq (a : Option Addr) (n cap : Nat) : (Value.slice a n cap).ownBlock = blk a := by cases a <;> rfl
section
variable {w w' : World} {B : Nat} {e : TypeId} {size : Nat} {a : Option Addr} {n cap : Nat} {xs : List Value}
theorem Owns.nil (w : World) (B : Nat) (e : TypeId) (size : Nat) : Owns w B e size none 0 0 [] := World.ownsRow_nil w B e size
theorem Owns.len (h : Owns w B e size a n cap xs) : xs.length = n * size := h.1
theorem Owns.of_none (h : Owns w B e size none n cap xs) : n = 0 ∧ cap = 0 ∧ xs = [] := by
  rcases h.2 with ⟨h1, h2⟩ | ⟨g, cp, cur, h1, _⟩
  · cases h1
    exact ⟨rfl, rfl, List.eq_nil_of_length_eq_zero (by simpa using h.1)⟩
  · cases h1
theorem Owns.row {x : Addr} (h : Owns w B e size (some x) n cap xs) : x = ⟨x.block, 0, none⟩ ∧ B ≤ x.block ∧ n ≤ cap ∧ cap ≤ maxLen ∧ RowAt w x.block 0 e xs := by
  rcases h.2 with ⟨h1, h2⟩ | ⟨g, cp, cur, h1, h2, h3, h4, h5, h6, h7⟩
  · cases h1
  · cases h1
    refine ⟨rfl, h2, h4, h5, cur, (0, 0), h3, ?_, fun i _ _ => by simp⟩
    intro i hi
    rw [← h7, List.getElem?_take, if_pos (by rw [h.1] at hi; exact hi), Nat.zero_add]
    simp
theorem Owns.lt {x : Addr} (h : Owns w B e size (some x) n cap xs) : B ≤ x.block ∧ x.block < w.heap.size := ⟨h.row.2.1, h.row.2.2.2.2.lt⟩
theorem Owns.keep (h : Owns w B e size a n cap xs) (hh : ∀ x, a = some x → w'.heap[x.block]? = w.heap[x.block]?) : Owns w' B e size a n cap xs := by
  refine ⟨h.1, ?_⟩
  rcases h.2 with h1 | ⟨g, cp, cur, h1, h2, h3, h4⟩
  · exact .inl h1
  · refine .inr ⟨g, cp, cur, h1, h2, ?_, h4⟩
    cases h1
    exact (hh _ rfl).trans h3
theorem Owns.grown {row : Option Nat} (h : Owns w B e size a n cap xs) (hg : w.grownBy w' row) (hne : ∀ x, a = some x → some x.block ≠ row) : Owns w' B e size a n cap xs :=
  h.keep fun x hx => by subst hx; exact hg.block _ h.lt.2 (hne _ rfl)
theorem Owns.below {B' : Nat} (h : Owns w B e size a n cap xs) (hb : Below B' w w') (hB : w.heap.size ≤ B') : Owns w' B e size a n cap xs :=
  h.keep fun x hx => by subst hx; exact hb.block _ (Nat.lt_of_lt_of_le h.lt.2 hB)
theorem Owns.belowLt {B' : Nat} (h : Owns w B e size a n cap xs) (hb : Below B' w w') (hB : ∀ x, a = some x → x.block < B') : Owns w' B e size a n cap xs :=
  h.keep fun x hx => by subst hx; exact hb.block _ (hB _ rfl)
theorem Owns.drew (h : Owns w B e size a n cap xs) : Owns w.drew B e size a n cap xs := h
theorem Owns.drewN (h : Owns w B e size a n cap xs) (k : Nat) : Owns (w.drewN k) B e size a n cap xs := h
theorem Owns.alloc (h : Owns w B e size a n cap xs) (o : Obj) : Owns (w.alloc o) B e size a n cap xs :=
  h.keep fun x hx => by subst hx; exact Below.heap_alloc w o _ h.lt.2
theorem Owns.far (h : Owns w B e size a n cap xs) {p : Addr} (hp : ∀ x, a = some x → x.block ≠ p.block) (u : Value) : Owns (w.setCell p u) B e size a n cap xs :=
  h.keep fun x hx => Below.heap_setCell w p u _ (hp x hx)
theorem Owns.mono {B' : Nat} (h : Owns w B e size a n cap xs) (hB : B' ≤ B) : Owns w B' e size a n cap xs := by
  refine ⟨h.1, ?_⟩
  rcases h.2 with h1 | ⟨g, cp, cur, h1, h2, h3⟩
  · exact .inl h1
  · exact .inr ⟨g, cp, cur, h1, Nat.le_trans hB h2, h3⟩
theorem Owns.cell {g : Nat} (h : Owns w B e size (some ⟨g, 0, none⟩) n cap xs) (i : Nat) (hi : i < xs.length) : w.cell? ⟨g, i, none⟩ = some xs[i] := h.row.2.2.2.2.cell0 i hi
/-- writing one cell -/
theorem Owns.set {g : Nat} (h : Owns w B e size (some ⟨g, 0, none⟩) n cap xs) (i : Nat) (hi : i < xs.length) (u : Value) : Owns (w.setCell ⟨g, i, none⟩ u) B e size (some ⟨g, 0, none⟩) n cap (xs.set i u) := by
  refine ⟨by rw [List.length_set]; exact h.1, ?_⟩
  rcases h.2 with ⟨h1, _⟩ | ⟨g', cp, cur, h1, h2, h3, h4, h5, h6, h7⟩
  · cases h1
  · cases h1
    refine .inr ⟨g, cap, cur.setIfInBounds i u, rfl, h2, ?_, h4, h5, by simpa using h6, ?_⟩
    · simp [World.setCell, Array.getElem?_modify, h3]
    · rw [← h7, Array.toList_setIfInBounds, List.take_set]
/-- 'make': the row is owned -/
theorem Owns.of_row (hl : xs.length = n * size) (w : World) (g : Nat) (cur : Array Value) (hB : B ≤ g) (hg : w.heap[g]? = some (.cells cur e (0, 0))) (hc : cur.size = cap * size) (hn : n ≤ cap) (hm : cap ≤ maxLen) (ht : cur.toList.take (n * size) = xs) :
    Owns w B e size (some ⟨g, 0, none⟩) n cap xs := ⟨hl, .inr ⟨g, cap, cur, rfl, hB, hg, hn, hm, hc, ht⟩⟩
end

/-- a slice of length n, whose first cells are xs, lies in a row (nil: of length 0): what 'append(s, x)' of one element leaves -/
theorem wpList_push {P : Program} (w : World) {ops : Array Oper} {rest : List Oper} {o : Oper} {act : Act} {Q : Exit → Act → World → Prop} (hgd : o.guard = none) (s x : Operand) (t : TypeId)
    (ho : o.op = .call { callee := .builtin .append, args := #[s, x], argTypes := #[t, t] })
    (B : Nat) (e : TypeId) (z : Value) (size bytes : Nat) (ht : P.underlying t = some (.slice e)) (hinf : (P.info? e).map (fun i => (i.zero, i.size, i.bytes)) = some (some z, size, bytes)) (hzs : z.cells.size = size) (hsz : 0 < size)
    (a : Option Addr) (n cap : Nat) (xs : List Value) (hs : act.eval s = .slice a n cap) (hown : Owns w B e size a n cap xs)
    (news : List Value) (hl : news.length = size) (h1 : ∀ u ∈ news, u.oneCell' = true) (hx : act.eval x = .slice (some ⟨w.heap.size, 0, none⟩) 1 1)
    (h63 : n + 1 ≤ maxLen) (hbytes : (n + 1) * bytes ≤ 140737488355328) (hbase : B ≤ w.heap.size)
    (h : ∀ a' cap' w', Owns w' B e size a' (n + 1) cap' (xs ++ news) → w.grownBy w' (blk a) → (∀ x, a' = some x → a = some x ∨ w.heap.size < x.block) → w.heap.size < w'.heap.size →
      (∃ g, a' = some ⟨g, 0, none⟩) → wpList P ops Q rest (act.put o.dst (.slice a' (n + 1) cap')) w') :
    wpList P ops Q (o :: rest) act (w.alloc (.cells news.toArray e)) := by
  obtain ⟨i, hi, hz, hsize, hby⟩ := info_parts hinf
  have hlen : news.length = 1 * size := by rw [hl, Nat.one_mul]
  have hnews : ∀ j u, news[j]? = some u → (w.alloc (.cells news.toArray e)).cell? ((⟨w.heap.size, 0, none⟩ : Addr).add j) = some u := by
    intro j u hj
    have hadd : (⟨w.heap.size, 0, none⟩ : Addr).add j = ⟨w.heap.size, j, none⟩ := by unfold Addr.add; split <;> simp_all
    rw [hadd, cell_of_row _ _ _ _ _ _ (heap_alloc_new w _)]
    simpa using hj
  refine wpList_append_own_at (w.alloc (.cells news.toArray e)) hgd s x t ho B e i z size bytes ht hi hz hsize hby hzs hsz (.slice a n cap) n xs hs (hown.alloc _) ⟨w.heap.size, 0, none⟩ 1 1 news hx hlen hnews h1 h63 hbytes (by simp; omega) ?_
  intro v' w' hown' hgrow hnil hloc
  have hsz' : w.heap.size < w'.heap.size := by have := hgrow.size; simp at this; omega
  have hex : ∃ g cap', v' = .slice (some ⟨g, 0, none⟩) (n + 1) cap' := by
    rcases hown'.2 with ⟨_, h2⟩ | ⟨g, cap', cur, h2, _⟩
    · omega
    · exact ⟨g, cap', h2⟩
  obtain ⟨g, cap', hv⟩ := hex
  rw [hv] at hown' hloc ⊢
  refine h (some ⟨g, 0, none⟩) cap' w' hown' ?_ ?_ hsz' ⟨g, rfl⟩
  · rw [ownBlock_eq] at hgrow
    exact (World.grownBy_alloc w _ _).trans hgrow
  · intro y hy
    cases hy
    rcases hloc with hloc | hloc
    · left
      rw [ownBlock_eq, ownBlock_eq] at hloc
      cases ha : a with
      | none => rw [ha] at hloc; simp [blk] at hloc
      | some y =>
        rw [ha] at hloc
        subst ha
        have hr := Owns.row hown
        simp [blk] at hloc
        rw [hr.1, ← hloc]
    · right
      rw [ownBlock_eq] at hloc
      simp [blk] at hloc
      simp [hloc]

/-- a slice of length n, whose first cells are xs, lies in a row (nil: of length 0): what 'append(s, x, ..)' of m elements leaves -/
theorem wpList_pushN {P : Program} (w : World) {ops : Array Oper} {rest : List Oper} {o : Oper} {act : Act} {Q : Exit → Act → World → Prop} (hgd : o.guard = none) (s x : Operand) (t : TypeId)
    (ho : o.op = .call { callee := .builtin .append, args := #[s, x], argTypes := #[t, t] })
    (B : Nat) (e : TypeId) (z : Value) (size bytes : Nat) (ht : P.underlying t = some (.slice e)) (hinf : (P.info? e).map (fun i => (i.zero, i.size, i.bytes)) = some (some z, size, bytes)) (hzs : z.cells.size = size) (hsz : 0 < size)
    (a : Option Addr) (n cap : Nat) (xs : List Value) (hs : act.eval s = .slice a n cap) (hown : Owns w B e size a n cap xs)
    (m : Nat) (hm : 1 ≤ m) (news : List Value) (hl : news.length = m * size) (h1 : ∀ u ∈ news, u.oneCell' = true) (hx : act.eval x = .slice (some ⟨w.heap.size, 0, none⟩) m m)
    (h63 : n + m ≤ maxLen) (hbytes : (n + m) * bytes ≤ 140737488355328) (hbase : B ≤ w.heap.size)
    (h : ∀ a' cap' w', Owns w' B e size a' (n + m) cap' (xs ++ news) → w.grownBy w' (blk a) → (∀ x, a' = some x → a = some x ∨ w.heap.size < x.block) → w.heap.size < w'.heap.size →
      (∃ g, a' = some ⟨g, 0, none⟩) → wpList P ops Q rest (act.put o.dst (.slice a' (n + m) cap')) w') :
    wpList P ops Q (o :: rest) act (w.alloc (.cells news.toArray e)) := by
  obtain ⟨i, hi, hz, hsize, hby⟩ := info_parts hinf
  have hnews : ∀ j u, news[j]? = some u → (w.alloc (.cells news.toArray e)).cell? ((⟨w.heap.size, 0, none⟩ : Addr).add j) = some u := by
    intro j u hj
    have hadd : (⟨w.heap.size, 0, none⟩ : Addr).add j = ⟨w.heap.size, j, none⟩ := by unfold Addr.add; split <;> simp_all
    rw [hadd, cell_of_row _ _ _ _ _ _ (heap_alloc_new w _)]
    simpa using hj
  refine wpList_append_own_at (w.alloc (.cells news.toArray e)) hgd s x t ho B e i z size bytes ht hi hz hsize hby hzs hsz (.slice a n cap) n xs hs (hown.alloc _) ⟨w.heap.size, 0, none⟩ m m news hx hl hnews h1 h63 hbytes (by simp; omega) ?_
  intro v' w' hown' hgrow hnil hloc
  have hsz' : w.heap.size < w'.heap.size := by have := hgrow.size; simp at this; omega
  have hex : ∃ g cap', v' = .slice (some ⟨g, 0, none⟩) (n + m) cap' := by
    rcases hown'.2 with ⟨_, h2⟩ | ⟨g, cap', cur, h2, _⟩
    · omega
    · exact ⟨g, cap', h2⟩
  obtain ⟨g, cap', hv⟩ := hex
  rw [hv] at hown' hloc ⊢
  refine h (some ⟨g, 0, none⟩) cap' w' hown' ?_ ?_ hsz' ⟨g, rfl⟩
  · rw [ownBlock_eq] at hgrow
    exact (World.grownBy_alloc w _ _).trans hgrow
  · intro y hy
    cases hy
    rcases hloc with hloc | hloc
    · left
      rw [ownBlock_eq, ownBlock_eq] at hloc
      cases ha : a with
      | none => rw [ha] at hloc; simp [blk] at hloc
      | some y =>
        rw [ha] at hloc
        subst ha
        have hr := Owns.row hown
        simp [blk] at hloc
        rw [hr.1, ← hloc]
    · right
      rw [ownBlock_eq] at hloc
      simp [blk] at hloc
      simp [hloc]

/-- 'append(T{x, ..}, xs...)' of m elements that were just laid in a row of their own: the others stand behind them -/
theorem wpList_front {P : Program} (w : World) {ops : Array Oper} {rest : List Oper} {o : Oper} {act : Act} {Q : Exit → Act → World → Prop} (hgd : o.guard = none) (s x : Operand) (t : TypeId)
    (ho : o.op = .call { callee := .builtin .append, args := #[s, x], argTypes := #[t, t] })
    (B B' : Nat) (e : TypeId) (z : Value) (size bytes : Nat) (ht : P.underlying t = some (.slice e)) (hinf : (P.info? e).map (fun i => (i.zero, i.size, i.bytes)) = some (some z, size, bytes)) (hzs : z.cells.size = size) (hsz : 0 < size)
    (m : Nat) (hm : 1 ≤ m) (hmm : m ≤ maxLen) (news : List Value) (hl : news.length = m * size) (hs : act.eval s = .slice (some ⟨w.heap.size, 0, none⟩) m m)
    (a : Option Addr) (n cap : Nat) (xs : List Value) (hx : act.eval x = .slice a n cap) (hown : Owns w B' e size a n cap xs) (h1 : ∀ u ∈ xs, u.oneCell' = true)
    (h63 : m + n ≤ maxLen) (hbytes : (m + n) * bytes ≤ 140737488355328) (hbase : B ≤ w.heap.size)
    (h : ∀ a' cap' w', Owns w' B e size a' (m + n) cap' (news ++ xs) → Below w.heap.size w w' → w.heap.size < w'.heap.size → (∃ g, a' = some ⟨g, 0, none⟩ ∧ w.heap.size ≤ g) → wpList P ops Q rest (act.put o.dst (.slice a' (m + n) cap')) w') :
    wpList P ops Q (o :: rest) act (w.alloc (.cells news.toArray e)) := by
  obtain ⟨i, hi, hz, hsize, hby⟩ := info_parts hinf
  have hown0 : (w.alloc (.cells news.toArray e)).ownsRow B e size (.slice (some ⟨w.heap.size, 0, none⟩) m m) m news :=
    Owns.of_row (n := m) (cap := m) hl _ w.heap.size news.toArray hbase (heap_alloc_new w _) (by rw [List.size_toArray]; exact hl) (Nat.le_refl _) hmm (by rw [← hl]; exact List.take_length)
  cases a with
  | none =>
    obtain ⟨h2, h3, h4⟩ := hown.of_none
    subst h2 h3 h4
    refine wpList_append_own_none (w := w.alloc (.cells news.toArray e)) hgd s x t ho B e i size ht hi _ m news hs hown0 hx ?_
    have := h (some ⟨w.heap.size, 0, none⟩) m (w.alloc (.cells news.toArray e)) (by rw [List.append_nil]; exact hown0) ((Below.refl _ _).alloc (Nat.le_refl _) _) (by simp) ⟨_, rfl, Nat.le_refl _⟩
    exact this
  | some y =>
    have hadd0 : ∀ b j : Nat, (⟨b, 0, none⟩ : Addr).add j = ⟨b, j, none⟩ := by intro b j; unfold Addr.add; split <;> simp_all
    obtain ⟨h2, h3, h4, h5, h6⟩ := hown.row
    have hnews : ∀ j u, xs[j]? = some u → (w.alloc (.cells news.toArray e)).cell? (y.add j) = some u := by
      intro j u hj
      have hadd : y.add j = ⟨y.block, j, none⟩ := (congrArg (fun z : Addr => z.add j) h2).trans (hadd0 y.block j)
      have hlt : j < xs.length := by
        rcases Nat.lt_or_ge j xs.length with h | h
        · exact h
        · rw [List.getElem?_eq_none h] at hj; cases hj
      rw [hadd, (h6.alloc _).cell0 j hlt, ← hj, List.getElem?_eq_getElem hlt]
    refine wpList_append_own_at (w.alloc (.cells news.toArray e)) hgd s x t ho B e i z size bytes ht hi hz hsize hby hzs hsz _ m news hs hown0 y n cap xs hx hown.len hnews h1 h63 hbytes (by simp; omega) ?_
    intro v' w' hown' hgrow hnil hloc
    have hsz' : w.heap.size < w'.heap.size := by have := hgrow.size; simp at this; omega
    have hex : ∃ g cap', v' = .slice (some ⟨g, 0, none⟩) (m + n) cap' := by
      rcases hown'.2 with ⟨_, h2⟩ | ⟨g, cap', cur, h2, _⟩
      · omega
      · exact ⟨g, cap', h2⟩
    obtain ⟨g, cap', hv⟩ := hex
    rw [hv] at hown' hloc ⊢
    refine h (some ⟨g, 0, none⟩) cap' w' hown' ?_ hsz' ⟨g, rfl, ?_⟩
    · refine ((Below.refl w.heap.size w).alloc (Nat.le_refl _) (.cells news.toArray e)).grown hgrow (by simp) ?_
      intro k hk
      rw [ownBlock_eq] at hk
      simp [blk] at hk
      omega
    · rcases hloc with hloc | hloc
      · rw [ownBlock_eq, ownBlock_eq] at hloc
        simp [blk] at hloc
        omega
      · rw [ownBlock_eq] at hloc
        simp [blk] at hloc
        omega

/-- a row of integers -/
def ivals (L : List Int) : List Value := L.map (Value.int .i64)
theorem ivals_length (L : List Int) : (ivals L).length = L.length := by simp [ivals]
theorem ivals_get (L : List Int) (i : Nat) (h : i < (ivals L).length) : (ivals L)[i] = .int .i64 (L.getD i 0) := by
  have h' : i < L.length := by simpa [ivals] using h
  simp [ivals, List.getD_eq_getElem?_getD, List.getElem?_eq_getElem h']
theorem ivals_set (L : List Int) (i : Nat) (x : Int) : (ivals L).set i (.int .i64 x) = ivals (L.set i x) := by simp [ivals, List.map_set]
theorem ivals_snoc (L : List Int) (x : Int) : ivals L ++ [.int .i64 x] = ivals (L ++ [x]) := by simp [ivals]
theorem RowAt.int {w : World} {g off : Nat} {e : TypeId} {L : List Int} (h : RowAt w g off e (ivals L)) (i : Nat) (hi : i < L.length) : w.cell? ⟨g, off + i, none⟩ = some (.int .i64 (L.getD i 0)) := by
  rw [h.cell i (by simpa [ivals] using hi), ivals_get]
theorem RowAt.int0 {w : World} {g : Nat} {e : TypeId} {L : List Int} (h : RowAt w g 0 e (ivals L)) (i : Nat) (hi : i < L.length) : w.cell? ⟨g, i, none⟩ = some (.int .i64 (L.getD i 0)) := by
  have := h.int i hi; rwa [Nat.zero_add] at this
theorem Owns.int {w : World} {B g : Nat} {e : TypeId} {n cap : Nat} {L : List Int} (h : Owns w B e 1 (some ⟨g, 0, none⟩) n cap (ivals L)) (i : Nat) (hi : i < L.length) : w.cell? ⟨g, i, none⟩ = some (.int .i64 (L.getD i 0)) := h.row.2.2.2.2.int0 i hi
/-- a row of numbers that is filled from its head on -/
def fillI (full : List Int) (k : Nat) : List Int := full.take k ++ List.replicate (full.length - k) 0
theorem fillI_length (full : List Int) (k : Nat) (h : k ≤ full.length) : (fillI full k).length = full.length := by simp [fillI]; omega
theorem fillI_zero (full : List Int) : ivals (fillI full 0) = List.replicate full.length (.int .i64 0) := by simp [fillI, ivals]
theorem fillI_full (full : List Int) : fillI full full.length = full := by simp [fillI]
theorem fillI_get (full : List Int) (k i : Nat) (hi : i < k) (hk : k ≤ full.length) : (fillI full k).getD i 0 = full.getD i 0 := by
  unfold fillI
  simp only [List.getD_eq_getElem?_getD]
  rw [List.getElem?_append_left (by rw [List.length_take]; omega), List.getElem?_take, if_pos hi]
theorem fillI_step (full : List Int) (k : Nat) (h : k < full.length) : (fillI full k).set k (full.getD k 0) = fillI full (k + 1) := by
  have hl : (full.take k).length = k := by rw [List.length_take]; omega
  unfold fillI
  rw [List.set_append_right _ _ (by omega), hl, Nat.sub_self, show full.length - k = (full.length - (k + 1)) + 1 from by omega, List.replicate_succ, List.set_cons_zero, List.take_succ_eq_append_getElem h, List.append_assoc, List.getD_eq_getElem?_getD, List.getElem?_eq_getElem h]
  rfl
theorem RowAt.fillI {w : World} {g : Nat} {e : TypeId} {full : List Int} {k : Nat} (h : RowAt w g 0 e (ivals (fillI full k))) (hk : k < full.length) {v : Value} (hv : v = .int .i64 (full.getD k 0)) :
    RowAt (w.setCell ⟨g, k, none⟩ v) g 0 e (ivals (Go.Proofs.YtlomecfhobehnaaGreatDoor.fillI full (k + 1))) := by
  have := h.set0 k (by rw [ivals_length, fillI_length _ _ (by omega)]; exact hk) (.int .i64 (full.getD k 0))
  rw [ivals_set, fillI_step _ _ hk] at this
  rw [hv]; exact this
/-- a slice that begins at a reads as the numbers L -/
def ReadsI (w : World) (a : Option Addr) (L : List Int) : Prop := L = [] ∨ ∃ g off, a = some ⟨g, off, none⟩ ∧ ∀ i, i < L.length → w.cell? ⟨g, off + i, none⟩ = some (.int .i64 (L.getD i 0))
theorem ReadsI.nil (w : World) (a : Option Addr) : ReadsI w a [] := .inl rfl
theorem ReadsI.drewN {w : World} {a : Option Addr} {L : List Int} (h : ReadsI w a L) (n : Nat) : ReadsI (w.drewN n) a L := h
theorem ReadsI.keep {w w' : World} {a : Option Addr} {L : List Int} (h : ReadsI w a L) (hh : ∀ x, a = some x → w'.heap[x.block]? = w.heap[x.block]?) : ReadsI w' a L := by
  rcases h with h | ⟨g, off, h, hc⟩
  · exact .inl h
  · refine .inr ⟨g, off, h, fun i hi => ?_⟩
    have := World.cell?_of_block (w := w) (w' := w') (a := ⟨g, off + i, none⟩) (show w'.heap[g]? = w.heap[g]? from hh _ h)
    rw [this]
    exact hc i hi
theorem RowAt.readsI {w : World} {g off : Nat} {e : TypeId} {L : List Int} (h : RowAt w g off e (ivals L)) : ReadsI w (some ⟨g, off, none⟩) L :=
  .inr ⟨g, off, rfl, fun i hi => h.int i hi⟩
theorem Owns.readsI {w : World} {B : Nat} {e : TypeId} {a : Option Addr} {n cap : Nat} {L : List Int} (h : Owns w B e 1 a n cap (ivals L)) : ReadsI w a L := by
  cases a with
  | none =>
    have := h.of_none.2.2
    left
    cases L with
    | nil => rfl
    | cons x L => simp [ivals] at this
  | some x =>
    have hr := h.row
    rw [hr.1]
    exact hr.2.2.2.2.readsI
theorem ReadsI.take {w : World} {a : Option Addr} {L : List Int} (h : ReadsI w a L) (k : Nat) : ReadsI w a (L.take k) := by
  rcases h with h | ⟨g, off, h, hc⟩
  · subst h; left; simp
  · refine .inr ⟨g, off, h, fun i hi => ?_⟩
    rw [List.length_take] at hi
    rw [hc i (by omega)]
    simp only [List.getD_eq_getElem?_getD, List.getElem?_take]
    rw [if_pos (by omega)]
theorem ReadsI.pos {w : World} {a : Option Addr} {L : List Int} (h : ReadsI w a L) (hp : 0 < L.length) : ∃ g off, a = some ⟨g, off, none⟩ ∧ ∀ i, i < L.length → w.cell? ⟨g, off + i, none⟩ = some (.int .i64 (L.getD i 0)) := by
  rcases h with h | h
  · subst h; simp at hp
  · exact h
/-- two lists that agree at each place -/
theorem list_ext_getD {L M : List Int} (hl : L.length = M.length) (h : ∀ i, i < L.length → L.getD i 0 = M.getD i 0) : L = M := by
  apply List.ext_getElem hl
  intro i h1 h2
  have := h i h1
  rw [List.getD_eq_getElem?_getD, List.getD_eq_getElem?_getD, List.getElem?_eq_getElem h1, List.getElem?_eq_getElem h2] at this
  simpa using this
theorem grown_refl (w : World) (r : Option Nat) : w.grownBy w r := ⟨rfl, rfl, rfl, Nat.le_refl _, fun _ _ _ => rfl⟩
theorem grown_set {w w' : World} {g : Nat} (h : w.grownBy w' (some g)) {p : Addr} (hp : p.block = g) (u : Value) : w.grownBy (w'.setCell p u) (some g) :=
  ⟨h.os, h.tape, h.output, by simpa using h.size, fun k hk hne => (Below.heap_setCell w' p u k (fun e => hne (by rw [e, hp]))).trans (h.block k hk hne)⟩
theorem grown_drew {w w' : World} {r : Option Nat} (h : w.grownBy w' r) : w.grownBy w'.drew r := ⟨h.os, h.tape, h.output, h.size, h.block⟩
theorem grown_drewN {w w' : World} {r : Option Nat} (h : w.grownBy w' r) (n : Nat) : w.grownBy (w'.drewN n) r := ⟨h.os, h.tape, h.output, h.size, h.block⟩
theorem grown_alloc {w w' : World} {r : Option Nat} (h : w.grownBy w' r) (o : Obj) : w.grownBy (w'.alloc o) r := h.trans (World.grownBy_alloc w' o r)
/-- what changed lies in blocks of the call's own -/
theorem below_blk {B B' : Nat} {w w1 w2 : World} {e : TypeId} {size : Nat} {a : Option Addr} {n cap : Nat} {xs : List Value} (h : Below B w w1) (ho : Owns w1 B' e size a n cap xs) (hB : B ≤ B') (hz : B ≤ w1.heap.size) (hg : w1.grownBy w2 (blk a)) : Below B w w2 :=
  h.grown hg hz fun k hk => by
    cases a with
    | none => simp [blk] at hk
    | some y => have := ho.lt; simp [blk] at hk; omega
/-- a row outside of it stays -/
theorem RowAt.blk {B' : Nat} {w1 w2 : World} {e e' : TypeId} {size g off : Nat} {a : Option Addr} {n cap : Nat} {xs ys : List Value} (h : RowAt w1 g off e' ys) (ho : Owns w1 B' e size a n cap xs) (hg : w1.grownBy w2 (blk a)) (hB : g < B') : RowAt w2 g off e' ys :=
  h.of_heap (hg.block g h.lt (by
    intro hh
    cases a with
    | none => simp [Go.Proofs.YtlomecfhobehnaaGreatDoor.blk] at hh
    | some y => have := ho.lt; simp [Go.Proofs.YtlomecfhobehnaaGreatDoor.blk] at hh; omega))
/-- a row of numbers that are not below 0 -/
def nvals (k : IntKind) (L : List Nat) : List Value := L.map fun n => .int k (n : Nat)
theorem nvals_length (k : IntKind) (L : List Nat) : (nvals k L).length = L.length := by simp [nvals]
theorem nvals_get (k : IntKind) (L : List Nat) (i : Nat) (h : i < (nvals k L).length) : (nvals k L)[i] = .int k (L.getD i 0 : Nat) := by
  have h' : i < L.length := by simpa [nvals] using h
  simp [nvals, List.getD_eq_getElem?_getD, List.getElem?_eq_getElem h']
theorem nvals_set (k : IntKind) (L : List Nat) (i x : Nat) : (nvals k L).set i (.int k (x : Nat)) = nvals k (L.set i x) := by simp [nvals, List.map_set]
theorem RowAt.num {w : World} {k : IntKind} {g off : Nat} {e : TypeId} {L : List Nat} (h : RowAt w g off e (nvals k L)) (i : Nat) (hi : i < L.length) : w.cell? ⟨g, off + i, none⟩ = some (.int k (L.getD i 0 : Nat)) := by
  rw [h.cell i (by simpa [nvals] using hi), nvals_get]
theorem RowAt.num0 {w : World} {k : IntKind} {g : Nat} {e : TypeId} {L : List Nat} (h : RowAt w g 0 e (nvals k L)) (i : Nat) (hi : i < L.length) : w.cell? ⟨g, i, none⟩ = some (.int k (L.getD i 0 : Nat)) := by
  have := h.num i hi; rwa [Nat.zero_add] at this
theorem RowAt.setNum {w : World} {k : IntKind} {g : Nat} {e : TypeId} {L : List Nat} (h : RowAt w g 0 e (nvals k L)) (i x : Nat) (hi : i < L.length) : RowAt (w.setCell ⟨g, i, none⟩ (.int k (x : Nat))) g 0 e (nvals k (L.set i x)) := by
  have := h.set0 i (by rw [nvals_length]; exact hi) (.int k (x : Nat)); rwa [nvals_set] at this
theorem RowAt.new' (w : World) (g : Nat) (hg : g = w.heap.size) (e : TypeId) (cs : Array Value) : RowAt (w.alloc (.cells cs e)) g 0 e cs.toList := by subst hg; exact RowAt.new w e cs
theorem Owns.blk_lt {w : World} {B : Nat} {e : TypeId} {size : Nat} {a : Option Addr} {n cap : Nat} {xs : List Value} (h : Owns w B e size a n cap xs) : ∀ x, a = some x → x.block < w.heap.size := fun x hx => by subst hx; exact h.lt.2
end Go.Proofs.YtlomecfhobehnaaGreatDoor
end
section
/- Contracts of package lex: letter, digit, next. -/
namespace Go.Proofs.YtlomecfhobehnaaGreatDoor
open Go.RowKit
set_option linter.unusedVariables false
set_option linter.unusedSimpArgs false
set_option maxRecDepth 100000 in
theorem letter_any (n : Nat) (hn : n < 256) (w : World) : Calls Tryz.prog 111 #[.int .u8 (n : Nat)] w fun e w' => e = .returned (.bool (Lex.letter n)) ∧ w = w' := by
  obtain ⟨b, hb⟩ : ∃ b, b = Lex.letter n := ⟨_, rfl⟩
  rw [← hb]
  have HB := Lib.hid hb; clear hb
  by_cases k1 : 97 ≤ n
  · have d1 : decide ((97 : Int) ≤ (n : Int)) = true := by rw [decide_eq_true_eq]; omega
    by_cases k2 : n ≤ 122
    · have d2 : decide ((n : Int) ≤ 122) = true := by rw [decide_eq_true_eq]; omega
      have hr : b = true := by rw [HB.out]; simp [Lex.letter]; omega
      subst hr
      go_enter Tryz.func111, Tryz.ntmps111
      go_wp2_with fail
      go_ret
      exact ⟨rfl, rfl⟩
    · have d2 : decide ((n : Int) ≤ 122) = false := by rw [decide_eq_false_iff_not]; omega
      have d3 : decide ((65 : Int) ≤ (n : Int)) = true := by rw [decide_eq_true_eq]; omega
      have d4 : decide ((n : Int) ≤ 90) = false := by rw [decide_eq_false_iff_not]; omega
      have d5 : ((n : Int) == 95) = false := by rw [beq_eq_false_iff_ne]; omega
      have hr : b = false := by rw [HB.out]; simp [Lex.letter]; omega
      subst hr
      go_enter Tryz.func111, Tryz.ntmps111
      go_wp2_with fail
      go_ret
      exact ⟨rfl, rfl⟩
  · have d1 : decide ((97 : Int) ≤ (n : Int)) = false := by rw [decide_eq_false_iff_not]; omega
    by_cases k3 : 65 ≤ n
    · have d3 : decide ((65 : Int) ≤ (n : Int)) = true := by rw [decide_eq_true_eq]; omega
      by_cases k4 : n ≤ 90
      · have d4 : decide ((n : Int) ≤ 90) = true := by rw [decide_eq_true_eq]; omega
        have hr : b = true := by rw [HB.out]; simp [Lex.letter]; omega
        subst hr
        go_enter Tryz.func111, Tryz.ntmps111
        go_wp2_with fail
        go_ret
        exact ⟨rfl, rfl⟩
      · have d4 : decide ((n : Int) ≤ 90) = false := by rw [decide_eq_false_iff_not]; omega
        by_cases k5 : n = 95
        · have d5 : ((n : Int) == 95) = true := by rw [beq_iff_eq]; omega
          have hr : b = true := by rw [HB.out]; simp [Lex.letter]; omega
          subst hr
          have K5 := Lib.hid k5; clear k5
          go_enter Tryz.func111, Tryz.ntmps111
          go_wp2_with fail
          go_ret
          exact ⟨rfl, rfl⟩
        · have d5 : ((n : Int) == 95) = false := by rw [beq_eq_false_iff_ne]; omega
          have hr : b = false := by rw [HB.out]; simp [Lex.letter]; omega
          subst hr
          go_enter Tryz.func111, Tryz.ntmps111
          go_wp2_with fail
          go_ret
          exact ⟨rfl, rfl⟩
    · have d3 : decide ((65 : Int) ≤ (n : Int)) = false := by rw [decide_eq_false_iff_not]; omega
      have d5 : ((n : Int) == 95) = false := by rw [beq_eq_false_iff_ne]; omega
      have hr : b = false := by rw [HB.out]; simp [Lex.letter]; omega
      subst hr
      go_enter Tryz.func111, Tryz.ntmps111
      go_wp2_with fail
      go_ret
      exact ⟨rfl, rfl⟩
theorem digit_any (n : Nat) (hn : n < 256) (w : World) : Calls Tryz.prog 136 #[.int .u8 (n : Nat)] w fun e w' => e = .returned (.bool (Lex.digit n)) ∧ w = w' := by
  obtain ⟨b, hb⟩ : ∃ b, b = Lex.digit n := ⟨_, rfl⟩
  rw [← hb]
  have HB := Lib.hid hb; clear hb
  by_cases k1 : 48 ≤ n
  · have d1 : decide ((48 : Int) ≤ (n : Int)) = true := by rw [decide_eq_true_eq]; omega
    by_cases k2 : n ≤ 57
    · have d2 : decide ((n : Int) ≤ 57) = true := by rw [decide_eq_true_eq]; omega
      have hr : b = true := by rw [HB.out]; simp [Lex.digit]; omega
      subst hr
      go_enter Tryz.func136, Tryz.ntmps136
      go_wp2_with fail
      go_ret
      exact ⟨rfl, rfl⟩
    · have d2 : decide ((n : Int) ≤ 57) = false := by rw [decide_eq_false_iff_not]; omega
      have hr : b = false := by rw [HB.out]; simp [Lex.digit]; omega
      subst hr
      go_enter Tryz.func136, Tryz.ntmps136
      go_wp2_with fail
      go_ret
      exact ⟨rfl, rfl⟩
  · have d1 : decide ((48 : Int) ≤ (n : Int)) = false := by rw [decide_eq_false_iff_not]; omega
    have hr : b = false := by rw [HB.out]; simp [Lex.digit]; omega
    subst hr
    go_enter Tryz.func136, Tryz.ntmps136
    go_wp2_with fail
    go_ret
    exact ⟨rfl, rfl⟩
end Go.Proofs.YtlomecfhobehnaaGreatDoor
end
section
/- Contract of lex.next. -/
namespace Go.Proofs.YtlomecfhobehnaaGreatDoor
open Go.RowKit
set_option linter.unusedVariables false
set_option linter.unusedSimpArgs false
theorem bstr_cutL (l : List UInt8) (i j : Nat) : (bstr l).extract i j = bstr ((l.drop i).take (j - i)) := by
  apply ByteArray.ext
  apply Array.ext'
  rw [ByteArray.data_extract, Array.toList_extract]
  rfl
theorem bstr_atL (l : List UInt8) (i : Nat) (h : i < (bstr l).size) : (bstr l)[i]'h = l.getD i 0 := by
  have h' : i < l.length := by rw [bstr_size] at h; exact h
  rw [List.getD_eq_getElem?_getD, List.getElem?_eq_getElem h']
  rfl
theorem prefix_take (m l : List UInt8) (h : m.length ≤ l.length) : m.isPrefixOf l = (l.take m.length == m) := by
  rw [Bool.eq_iff_iff, List.isPrefixOf_iff_prefix, beq_iff_eq, List.prefix_iff_eq_take]
  exact ⟨fun h => h.symm, fun h => h.symm⟩
theorem prefix_no (m l : List UInt8) (h : ¬ m.length ≤ l.length) : m.isPrefixOf l = false := by
  rw [Bool.eq_false_iff]
  intro hh
  exact h (List.IsPrefix.length_le (List.isPrefixOf_iff_prefix.1 hh))
set_option maxRecDepth 100000 in
theorem HasPrefixL_any (l m : List UInt8) (hl : l.length ≤ 100000) (hm : m.length ≤ 100000) (w : World) : Calls Tryz.prog 148 #[.string (bstr l), .string (bstr m)] w fun e w' => e = .returned (.bool (m.isPrefixOf l)) ∧ w = w' := by
  by_cases h : m.length ≤ l.length
  · have hp := prefix_take m l h
    have hx : (bstr l).extract 0 m.length = bstr (l.take m.length) := by rw [bstr_cutL]; simp
    have d1 : decide ((m.length : Int) ≤ (l.length : Int)) = true := by rw [decide_eq_true_eq]; omega
    have d2 : decide (m.length ≤ l.length) = true := decide_eq_true h
    have hI : (m.length : Int) ≤ (l.length : Int) := by omega
    have HP := Lib.hid hp; clear hp
    go_enter Tryz.func148, Tryz.ntmps148
    go_wp2_with fail
    go_ret
    exact ⟨ret_bool HP.out.symm, rfl⟩
  · have hp := prefix_no m l h
    have d1 : decide ((m.length : Int) ≤ (l.length : Int)) = false := by rw [decide_eq_false_iff_not]; omega
    have d2 : decide (m.length ≤ l.length) = false := decide_eq_false h
    have HP := Lib.hid hp; clear hp
    go_enter Tryz.func148, Tryz.ntmps148
    go_wp2_with fail
    go_ret
    exact ⟨ret_bool HP.out.symm, rfl⟩
theorem HasPrefix_any (l m : List UInt8) (hl : l.length ≤ 100000) (hm : m.length ≤ 100000) (w : World) : Calls Tryz.prog 130 #[.string (bstr l), .string (bstr m)] w fun e w' => e = .returned (.bool (m.isPrefixOf l)) ∧ w = w' := by
  have h := HasPrefixL_any l m hl hm w
  generalize m.isPrefixOf l = b at *
  have H := Lib.hid h; clear h
  go_enter Tryz.func130, Tryz.ntmps130
  go_wp2_with fail
  refine H.out.mono ?_
  rintro e w1 ⟨rfl, rfl⟩
  go_wp2_with fail
  go_ret
  exact ⟨rfl, rfl⟩
/-- the table of marks, as it was laid -/
def MarksAt (w : World) : Prop := ∀ j, j < 18 → w.cell? ⟨1, j, none⟩ = some (.string (bstr (Lex.marks.getD j [])))
theorem MarksAt.below {w w' : World} {B : Nat} (h : MarksAt w) (hb : Below B w w') (hB : w.heap.size ≤ B) : MarksAt w' := by
  intro j hj
  have hc := h j hj
  have hlt := World.block_lt_of_cell? w _ hc
  exact (hb.cell (p := ⟨1, j, none⟩) (Nat.lt_of_lt_of_le hlt hB)).trans hc
def marksV : Array Value := #[.string (bstr [61, 61]), .string (bstr [33, 61]), .string (bstr [123]), .string (bstr [125]), .string (bstr [91]), .string (bstr [93]), .string (bstr [40]), .string (bstr [41]), .string (bstr [59]), .string (bstr [44]), .string (bstr [61]), .string (bstr [43]), .string (bstr [45]), .string (bstr [42]), .string (bstr [38]), .string (bstr [124]), .string (bstr [60]), .string (bstr [62])]
theorem marks_index (k : Nat) (h : k < 18) (w : World) : (Instr.index 225 (.agg marksV) (.int .i64 k)).run Tryz.prog w = .ok (.string (bstr (Lex.marks.getD k []))) w := by
  rcases (by omega : k = 0 ∨ k = 1 ∨ k = 2 ∨ k = 3 ∨ k = 4 ∨ k = 5 ∨ k = 6 ∨ k = 7 ∨ k = 8 ∨ k = 9 ∨ k = 10 ∨ k = 11 ∨ k = 12 ∨ k = 13 ∨ k = 14 ∨ k = 15 ∨ k = 16 ∨ k = 17) with rfl | rfl | rfl | rfl | rfl | rfl | rfl | rfl | rfl | rfl | rfl | rfl | rfl | rfl | rfl | rfl | rfl | rfl <;> kernel_rfl
namespace Lex
theorem wordLen_lt (l : List UInt8) (k : Nat) (h : k < (l.takeWhile word).length) : word (l.getD k 0) = true := by
  have h1 := takeWhile_all word l ((l.takeWhile word)[k]) (List.getElem_mem h)
  have h2 : l.getD k 0 = (l.takeWhile word)[k] := by
    have hp := List.takeWhile_prefix word (l := l)
    have := hp.getElem (by exact h)
    rw [this, List.getD_eq_getElem?_getD, List.getElem?_eq_getElem]
    rfl
  rw [h2]; exact h1
theorem wordLen_stop : ∀ (l : List UInt8), (l.takeWhile word).length < l.length → word (l.getD (l.takeWhile word).length 0) = false := by
  intro l
  induction l with
  | nil => intro h; simp at h
  | cons c l ih =>
    intro h
    rw [List.takeWhile_cons] at h ⊢
    by_cases hc : word c = true
    · rw [if_pos hc] at h ⊢
      simp only [List.length_cons] at h ⊢
      have := ih (by omega)
      simpa using this
    · rw [if_neg hc]
      simpa using hc
end Lex
end Go.Proofs.YtlomecfhobehnaaGreatDoor
end
