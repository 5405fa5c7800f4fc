/- Memory: a row of cells in a block, known from a place on; laws for make, bytes of a string, and back. No program in sight. -/
import Derived.Laws.IdiomStrings
import Derived.Test.YtlpkebngehmimaaGreatDoorMgTypesMore0
section
/- Memory: a row of cells in a block, known from a place on; laws for make, bytes of a string, and back. No program in sight. -/
namespace Go.Proofs.YtlpkebngehmimaaGreatDoor
open Go.RowKit
set_option linter.unusedVariables false
set_option linter.unusedSimpArgs false

/-- block g holds the cells xs, of element type e, from place off on; none of them is frozen -/
def RowAt (w : World) (g off : Nat) (e : TypeId) (xs : List Value) : Prop :=
  ∃ cur fz, w.heap[g]? = some (.cells cur e fz) ∧ (∀ i, i < xs.length → cur[off + i]? = xs[i]?) ∧ (∀ i, i < xs.length → fz.1 ≤ off + i → fz.2 ≤ off + i)

section
variable {w w' : World} {g off : Nat} {e : TypeId} {xs : List Value}
theorem RowAt.lt (h : RowAt w g off e xs) : g < w.heap.size := by
  obtain ⟨cur, fz, h, _⟩ := h
  rcases Nat.lt_or_ge g w.heap.size with hlt | hge
  · exact hlt
  · rw [Array.getElem?_eq_none hge] at h; cases h
theorem RowAt.cell? (h : RowAt w g off e xs) (i : Nat) (hi : i < xs.length) : w.cell? ⟨g, off + i, none⟩ = xs[i]? := by
  obtain ⟨cur, fz, h, hc, _⟩ := h
  rw [cell_of_row w g (off + i) cur e fz h, hc i hi]
theorem RowAt.cell (h : RowAt w g off e xs) (i : Nat) (hi : i < xs.length) : w.cell? ⟨g, off + i, none⟩ = some xs[i] := by
  rw [h.cell? i hi, List.getElem?_eq_getElem hi]
theorem RowAt.cell0 (h : RowAt w g 0 e xs) (i : Nat) (hi : i < xs.length) : w.cell? ⟨g, i, none⟩ = some xs[i] := by
  have := h.cell i hi; rwa [Nat.zero_add] at this
theorem RowAt.frozen (h : RowAt w g off e xs) (i : Nat) (hi : i < xs.length) : w.frozen? ⟨g, off + i, none⟩ = false := by
  obtain ⟨cur, fz, h, _, hf⟩ := h
  have := hf i hi
  simp only [World.frozen?, h]
  by_cases h1 : fz.1 ≤ off + i
  · simp [h1]; exact this h1
  · simp [h1]
theorem RowAt.frozen0 (h : RowAt w g 0 e xs) (i : Nat) (hi : i < xs.length) : w.frozen? ⟨g, i, none⟩ = false := by
  have := h.frozen i hi; rwa [Nat.zero_add] at this
theorem RowAt.of_heap (h : RowAt w g off e xs) (hh : w'.heap[g]? = w.heap[g]?) : RowAt w' g off e xs := by
  obtain ⟨cur, fz, h, r⟩ := h
  exact ⟨cur, fz, hh.trans h, r⟩
theorem RowAt.drew (h : RowAt w g off e xs) : RowAt w.drew g off e xs := h
theorem RowAt.drewN (h : RowAt w g off e xs) (n : Nat) : RowAt (w.drewN n) g off e xs := h
theorem RowAt.alloc (h : RowAt w g off e xs) (o : Obj) : RowAt (w.alloc o) g off e xs := h.of_heap (Below.heap_alloc w o g h.lt)
theorem RowAt.far (h : RowAt w g off e xs) {p : Addr} (hp : g ≠ p.block) (u : Value) : RowAt (w.setCell p u) g off e xs := h.of_heap (Below.heap_setCell w p u g hp)
theorem RowAt.below {B : Nat} (h : RowAt w g off e xs) (hb : Below B w w') (hg : g < B) : RowAt w' g off e xs := h.of_heap (hb.block g hg)
theorem RowAt.set (h : RowAt w g off e xs) (i : Nat) (hi : i < xs.length) (u : Value) : RowAt (w.setCell ⟨g, off + i, none⟩ u) g off e (xs.set i u) := by
  obtain ⟨cur, fz, h, hc, hf⟩ := h
  have hlt : off + i < cur.size := by
    have := hc i hi
    rw [List.getElem?_eq_getElem hi] at this
    rcases Nat.lt_or_ge (off + i) cur.size with h1 | h1
    · exact h1
    · rw [Array.getElem?_eq_none h1] at this; cases this
  refine ⟨cur.setIfInBounds (off + i) u, fz, ?_, ?_, ?_⟩
  · simp [World.setCell, Array.getElem?_modify, h]
  · intro j hj
    rw [List.length_set] at hj
    rw [Array.getElem?_setIfInBounds, List.getElem?_set]
    by_cases hij : i = j
    · subst hij; simp [hlt, hi]
    · rw [if_neg (by omega), if_neg hij]; exact hc j hj
  · intro j hj; exact hf j (by simpa using hj)
theorem RowAt.set0 (h : RowAt w g 0 e xs) (i : Nat) (hi : i < xs.length) (u : Value) : RowAt (w.setCell ⟨g, i, none⟩ u) g 0 e (xs.set i u) := by
  have := h.set i hi u; rwa [Nat.zero_add] at this
theorem RowAt.new (w : World) (e : TypeId) (cs : Array Value) : RowAt (w.alloc (.cells cs e)) w.heap.size 0 e cs.toList :=
  ⟨cs, (0, 0), heap_alloc_new w _, fun i hi => by rw [Nat.zero_add]; simp, fun i _ _ => by simp⟩
/-- a part of a row -/
theorem RowAt.part (h : RowAt w g off e xs) (k n : Nat) : RowAt w g (off + k) e ((xs.drop k).take n) := by
  obtain ⟨cur, fz, h, hc, hf⟩ := h
  refine ⟨cur, fz, h, ?_, ?_⟩
  · intro i hi
    have hi' : i < n ∧ i < xs.length - k := by rw [List.length_take, List.length_drop] at hi; omega
    rw [List.getElem?_take, if_pos hi'.1, List.getElem?_drop, Nat.add_assoc]
    exact hc (k + i) (by omega)
  · intro i hi
    have hi' : i < n ∧ i < xs.length - k := by rw [List.length_take, List.length_drop] at hi; omega
    have := hf (k + i) (by omega)
    rwa [← Nat.add_assoc] at this
end

/-- a byte as a cell -/
def bval (b : UInt8) : Value := .int .u8 ((b.toNat : Nat) : Int)
def bvals (l : List UInt8) : List Value := l.map bval
theorem bvals_length (l : List UInt8) : (bvals l).length = l.length := by simp [bvals]
theorem bvals_get (l : List UInt8) (i : Nat) (h : i < (bvals l).length) : (bvals l)[i] = .int .u8 (((l.getD i 0).toNat : Nat) : Int) := by
  have h' : i < l.length := by simpa [bvals] using h
  simp [bvals, bval, List.getD_eq_getElem?_getD, List.getElem?_eq_getElem h']
theorem bvals_set (l : List UInt8) (i : Nat) (b : UInt8) : (bvals l).set i (bval b) = bvals (l.set i b) := by
  simp [bvals, List.map_set]

section
variable {P : Program}
/-- the cells of a row of bytes: read -/
theorem RowAt.byte {w : World} {g off : Nat} {e : TypeId} {l : List UInt8} (h : RowAt w g off e (bvals l)) (i : Nat) (hi : i < l.length) :
    w.cell? ⟨g, off + i, none⟩ = some (.int .u8 (((l.getD i 0).toNat : Nat) : Int)) := by
  rw [h.cell i (by simpa [bvals] using hi), bvals_get]
theorem RowAt.byte0 {w : World} {g : Nat} {e : TypeId} {l : List UInt8} (h : RowAt w g 0 e (bvals l)) (i : Nat) (hi : i < l.length) :
    w.cell? ⟨g, i, none⟩ = some (.int .u8 (((l.getD i 0).toNat : Nat) : Int)) := by
  have := h.byte i hi; rwa [Nat.zero_add] at this
/-- a row of bytes as a string -/
theorem run_string_of {w : World} {g off : Nat} {l : List UInt8} (src e dst : TypeId) (hs : P.underlying src = some (.slice e)) (he : P.underlying e = some (.int .u8)) (hd : P.underlying dst = some .string)
    (h : RowAt w g off e (bvals l)) (n cap : Nat) (hn : n = l.length) :
    (convert src dst (.slice (some ⟨g, off, none⟩) n cap)).run P w = .ok (.string (bstr l)) w := by
  have := run_convert_bytes_arg (P := P) w src e hs he g off n cap (l.map fun b => ((b.toNat : Nat) : Int)) (by simp [hn]) (fun i hi => by
    rw [h.byte i (by omega)]
    congr 2
    rw [List.getD_eq_getElem?_getD, List.getD_eq_getElem?_getD, List.getElem?_map]
    have h' : i < l.length := by omega
    simp [List.getElem?_eq_getElem h']) dst hd
  rw [this, strOfNums_eq]
  congr 3
  rw [List.map_map]
  conv => rhs; rw [← List.map_id l]
  apply List.map_congr_left
  intro b _
  simp

theorem rowAt_bytesRow (w : World) (e : TypeId) (s : ByteArray) (cap : Nat) (hc : s.size ≤ cap) :
    RowAt (w.drew.alloc (.cells (bytesRow s cap) e ((bytesRow s cap).size, (bytesRow s cap).size + 1))) w.heap.size 0 e (bvals s.data.toList) := by
  refine ⟨bytesRow s cap, _, heap_alloc_new w.drew _, ?_, ?_⟩
  · intro i hi
    have hi' : i < s.data.size := by simpa [bvals] using hi
    rw [Nat.zero_add]
    have hi2 : i < s.size := hi'
    simp [bytesRow, bvals, Array.getElem?_append, hi2]
    rfl
  · intro i hi
    have hi' : i < s.data.size := by simpa [bvals] using hi
    intro h
    exfalso
    simp only [bytesRow, Array.size_append, Array.size_map, Array.size_replicate] at h
    omega

theorem grownCap_le (w : World) (n e : Nat) : n ≤ grownCap w n 0 e := by
  unfold grownCap Question.cut
  simp
/-- '[]byte(s)' -/
theorem wpList_bytes (w : World) {ops : Array Oper} {rest : List Oper} {o : Oper} {a : Act} {Q : Exit → Act → World → Prop} (hg : o.guard = none) (x : Operand) (src dst e : TypeId)
    (hop : o.op = Op.convert src dst x) (hs : P.underlying src = some .string) (hd : P.underlying dst = some (.slice e)) (he : P.underlying e = some (.int .u8)) (s : ByteArray) (hx : a.eval x = .string s)
    (hK : ∀ w' cap, s.size ≤ cap → RowAt w' w.heap.size 0 e (bvals s.data.toList) → Below w.heap.size w w' → w.heap.size < w'.heap.size →
      wpList P ops Q rest (a.put o.dst (.slice (some ⟨w.heap.size, 0, none⟩) s.size cap)) w') :
    wpList P ops Q (o :: rest) a w := by
  refine wpList_plain hg fun K hK' => ?_
  have hrun := run_bytes_of_string (P := P) w src dst e s hs hd he
  unfold Oper.wp
  simp only [execOp, hop, hx, Sem.run_bind, hrun, Result.andThen_ok, Sem.run_pure]
  exact hK' _ _ (hK _ _ (grownCap_le _ _ _) (rowAt_bytesRow w e s _ (grownCap_le _ _ _)) ((Below.refl _ _).drew.alloc (Nat.le_refl _) _) (by simp))
/-- 'make([]T, n)', elements of one cell -/
theorem wpList_make0 (w : World) {ops : Array Oper} {rest : List Oper} {o : Oper} {a : Act} {Q : Exit → Act → World → Prop} (hg : o.guard = none) (l c : Operand) (t : TypeId)
    (hop : o.op = Op.makeSlice t l c) (e : TypeId) (i : TypeInfo) (z : Value) (h1 : P.underlying t = some (.slice e)) (h2 : P.info? e = some i) (h3 : i.zero = some z) (h4 : i.size = 1) (h5 : z.cells = #[z])
    (kl kc : IntKind) (L C : Int) (n : Nat) (hl : a.eval l = .int kl L) (hc : a.eval c = .int kc C) (hL : L = (n : Int)) (hC : C = (n : Int)) (b2 : i.bytes * n ≤ 281474976710656) (b3 : n ≤ maxLen)
    (hK : ∀ w', RowAt w' w.heap.size 0 e (List.replicate n z) → Below w.heap.size w w' → w.heap.size < w'.heap.size → wpList P ops Q rest (a.put o.dst (.slice (some ⟨w.heap.size, 0, none⟩) n n)) w') :
    wpList P ops Q (o :: rest) a w := by
  refine wpList_plain hg fun K hK' => ?_
  subst hL hC
  have h63' : (n : Int) ≤ 9223372036854775807 := by
    have h := b3
    simp [maxLen] at h
    omega
  have hb' : (i.bytes : Int) * (n : Int) ≤ 281474976710656 := by
    have h : ((i.bytes * n : Nat) : Int) ≤ 281474976710656 := by omega
    rwa [Int.natCast_mul] at h
  have hrun := run_make (P := P) w t e i z h1 h2 h3 kl kc n n (by omega) (Int.le_refl _) hb' h63'
  simp only [Int.toNat_natCast, h4, Nat.mul_one] at hrun
  have hr := RowAt.new w e (madeCells z.cells n)
  rw [h5, toList_madeCells_one] at hr
  rw [h5] at hrun
  unfold Oper.wp
  simp only [execOp, hop, hl, hc, Sem.run_bind, hrun, Result.andThen_ok, Sem.run_pure]
  exact hK' _ _ (hK _ hr ((Below.refl _ _).alloc (Nat.le_refl _) _) (by simp))
end
theorem byteAt (s : ByteArray) (i : Nat) (h : i < s.size) : s[i] = s.data.toList.getD i 0 := by
  have h' : i < s.data.toList.length := by rw [Array.length_toList]; exact h
  rw [List.getD_eq_getElem?_getD, List.getElem?_eq_getElem h']
  rfl
/-- a row that is filled from its head on -/
def fillTo (full : List UInt8) (k : Nat) : List UInt8 := full.take k ++ List.replicate (full.length - k) 0
theorem fillTo_length (full : List UInt8) (k : Nat) (h : k ≤ full.length) : (fillTo full k).length = full.length := by
  simp [fillTo]; omega
theorem fillTo_zero (full : List UInt8) : bvals (fillTo full 0) = List.replicate full.length (.int .u8 0) := by
  simp [fillTo, bvals, bval]
theorem fillTo_full (full : List UInt8) : fillTo full full.length = full := by simp [fillTo]
theorem fillTo_step (full : List UInt8) (k : Nat) (h : k < full.length) : (fillTo full k).set k (full.getD k 0) = fillTo full (k + 1) := by
  have hl : (full.take k).length = k := by rw [List.length_take]; omega
  unfold fillTo
  rw [List.set_append_right _ _ (by omega), hl, Nat.sub_self, show full.length - k = (full.length - (k + 1)) + 1 from by omega, List.replicate_succ, List.set_cons_zero, List.take_succ_eq_append_getElem h, List.append_assoc, List.getD_eq_getElem?_getD, List.getElem?_eq_getElem h]
  rfl
theorem RowAt.fill {w : World} {g : Nat} {e : TypeId} {full : List UInt8} {k : Nat} (h : RowAt w g 0 e (bvals (fillTo full k))) (hk : k < full.length) {v : Value} (hv : v = bval (full.getD k 0)) :
    RowAt (w.setCell ⟨g, k, none⟩ v) g 0 e (bvals (fillTo full (k + 1))) := by
  have := h.set0 k (by rw [bvals_length, fillTo_length _ _ (by omega)]; exact hk) (bval (full.getD k 0))
  rw [bvals_set, fillTo_step _ _ hk] at this
  rw [hv]; exact this
end Go.Proofs.YtlpkebngehmimaaGreatDoor
end
