/- Contracts of lex.Read, lex.Catch. -/
import Derived.Test.YtnmbakibiaedhaaDoorReadD
import Derived.Tactics2
import Derived.Defers
import Derived.Recover
namespace Go.Proofs.YtnmbakibiaedhaaDoor
open Go.RowKit
set_option linter.unusedVariables false
set_option linter.unusedSimpArgs false
open Rd
namespace Rd
theorem tokCells_len (T : List Tok) : (tokCells T).length = T.length * 2 := by
  induction T with
  | nil => rfl
  | cons t T ih => simp only [tokCells, List.flatMap_cons, List.length_append, List.length_cons] at ih ⊢; rw [ih]; simp [tokCell]; omega
theorem tokCells_get : ∀ (T : List Tok) (k : Nat), k < T.length → (tokCells T)[k * 2]? = some (.string (bstr (T.getD k ([], 0)).1)) ∧ (tokCells T)[k * 2 + 1]? = some (.int .i64 ((T.getD k ([], 0)).2 : Nat)) := by
  intro T
  induction T with
  | nil => intro k h; simp at h
  | cons t T ih =>
    intro k h
    have e : tokCells (t :: T) = tokCell t ++ tokCells T := by simp [tokCells]
    cases k with
    | zero => rw [e]; simp [tokCell]
    | succ k =>
      have := ih k (by simpa using h)
      rw [e, List.getD_cons_succ, show (k + 1) * 2 = (tokCell t).length + k * 2 by simp [tokCell]; omega, List.getElem?_append_right (by omega), show (tokCell t).length + k * 2 + 1 = (tokCell t).length + (k * 2 + 1) by omega, List.getElem?_append_right (by omega)]
      simpa using this
theorem own_tokAt {w : World} {B n cap rb : Nat} {a : Option Addr} {T : List Tok} (h : Owns w B 41 2 a n cap (tokCells T)) (hrb : w.heap.size ≤ rb) : TokAt w rb a T := by
  cases a with
  | none =>
    have h3 := h.of_none.2.2
    left
    cases T with
    | nil => rfl
    | cons t T => simp [tokCells, tokCell] at h3
  | some x =>
    obtain ⟨h1, h2, h3, h4, h5⟩ := h.row
    refine .inr ⟨x.block, 0, by rw [← h1], Nat.lt_of_lt_of_le h5.lt hrb, fun j hj => ?_⟩
    obtain ⟨g1, g2⟩ := tokCells_get T j hj
    have hl := tokCells_len T
    have c1 := h5.cell0 (j * 2) (by omega)
    have c2 := h5.cell0 (j * 2 + 1) (by omega)
    rw [List.getElem?_eq_getElem (by omega : j * 2 < (tokCells T).length)] at g1
    rw [List.getElem?_eq_getElem (by omega : j * 2 + 1 < (tokCells T).length)] at g2
    rw [Nat.zero_add]
    exact ⟨by rw [c1]; exact g1, by rw [c2]; exact g2⟩
/-- .. and no older than B -/
theorem own_tokAt2 {w : World} {B n cap : Nat} {a : Option Addr} {T : List Tok} (h : Owns w B 41 2 a n cap (tokCells T)) : ∀ (W : World) (rb : Nat), w.heap.size ≤ rb → (∀ k, B ≤ k → k < w.heap.size → W.heap[k]? = w.heap[k]?) → TokAt W rb a T := by
  intro W rb hrb hW
  rcases own_tokAt h hrb with h1 | ⟨g, off, h1, h2, h3⟩
  · exact .inl h1
  · subst h1
    have hb := hW g h.lt.1 h.lt.2
    exact .inr ⟨g, off, rfl, h2, fun j hj => ⟨(World.cell?_of_block (a := ⟨g, off + j * 2, none⟩) hb).trans (h3 j hj).1, (World.cell?_of_block (a := ⟨g, off + j * 2 + 1, none⟩) hb).trans (h3 j hj).2⟩⟩
theorem own_cap {w : World} {B n cap : Nat} {a : Option Addr} {xs : List Value} {size : Nat} {e : TypeId} (h : Owns w B e size a n cap xs) : n ≤ cap := by
  cases a with
  | none => have := h.of_none; omega
  | some x => exact h.row.2.2.1
end Rd
set_option maxRecDepth 100000 in
theorem Lex_long (s : List UInt8) (w : World) (hs : 3000 < s.length) (hs2 : s.length ≤ 1000000) :
    Calls Tryd.prog 18 #[.string (bstr s)] w fun e w' => e = .returned (.tuple #[.slice none 0 0, .iface 31 (.int .i64 4)]) ∧ w' = w := by
  have hbig : decide ((3000 : Int) < (s.length : Int)) = true := by rw [decide_eq_true_eq]; omega
  go_enter Tryd.func18, Tryd.ntmps18
  go_wp2_with fail
  go_ret2
  exact ⟨rfl, rfl⟩
set_option maxRecDepth 100000 in
theorem LexRead_long (s : List UInt8) (w : World) (hs : 3000 < s.length) (hs2 : s.length ≤ 1000000) :
    Calls Tryd.prog 35 #[.string (bstr s)] w fun e w' => e = .returned (.tuple #[.pointer none, .iface 31 (.int .i64 4)]) ∧ w' = w := by
  have HL := Lib.hid (Lex_long s w hs hs2)
  clear hs hs2
  go_enter Tryd.func35, Tryd.ntmps35
  go_wp2_with fail
  refine HL.out.mono ?_
  rintro e w1 ⟨rfl, rfl⟩
  go_wp2_with fail
  go_ret2
  exact ⟨rfl, rfl⟩
set_option maxRecDepth 100000 in
theorem LexRead_bad (s : List UInt8) (w : World) (hs : s.length ≤ 3000) (hm : MarksAt w) (hn : Lex.lexA s 0 = none) :
    Calls Tryd.prog 35 #[.string (bstr s)] w fun e w' => (∃ g, e = .returned (.tuple #[.pointer none, .iface 88 (.pointer (some ⟨g, 0, none⟩))])) ∧ Below w.heap.size w w' := by
  have hL : Calls Tryd.prog 18 #[.string (bstr s)] w fun e w' => (∃ g, e = .returned (.tuple #[.slice none 0 0, .iface 88 (.pointer (some ⟨g, 0, none⟩))])) ∧ Below w.heap.size w w' := (Lex_any s w hs hm).mono fun e w' ⟨hb, h⟩ => by
    rcases h with ⟨T, a, cap, h1, _⟩ | ⟨_, g, h2⟩
    · rw [hn] at h1; cases h1
    · exact ⟨⟨g, h2⟩, hb⟩
  have HL := Lib.hid hL
  clear hL hs hm hn
  go_enter Tryd.func35, Tryd.ntmps35
  go_wp2_with fail
  refine HL.out.mono ?_
  rintro e w1 ⟨⟨g, rfl⟩, hb⟩
  go_wp2_with fail
  go_ret2
  exact ⟨⟨g, rfl⟩, hb⟩
set_option maxRecDepth 100000 in
theorem LexRead_ok (s : List UInt8) (T : List Rd.Tok) (w : World) (hs : s.length ≤ 3000) (hm : MarksAt w) (hn : Lex.lexA s 0 = some T) :
    Calls Tryd.prog 35 #[.string (bstr s)] w fun e w' => ∃ rb, e = .returned (.tuple #[.pointer (some ⟨rb, 0, none⟩), .nilIface]) ∧ (∀ W : World, (∀ k, w.heap.size ≤ k → k < w'.heap.size → W.heap[k]? = w'.heap[k]?) → Rdr W rb T s.length) ∧ w.heap.size ≤ rb ∧ rb < w'.heap.size ∧ Below w.heap.size w w' := by
  have hL : Calls Tryd.prog 18 #[.string (bstr s)] w fun e w' => ∃ a cap, e = .returned (.tuple #[.slice a T.length cap, .nilIface]) ∧ T.length ≤ cap ∧ (∀ (W : World) (rb : Nat), w'.heap.size ≤ rb → (∀ k, w.heap.size ≤ k → k < w'.heap.size → W.heap[k]? = w'.heap[k]?) → TokAt W rb a T) ∧ Below w.heap.size w w' := (Lex_any s w hs hm).mono fun e w' ⟨hb, h⟩ => by
    rcases h with ⟨T', a, cap, h1, h2, h3⟩ | ⟨h1, _⟩
    · rw [hn] at h1
      cases h1
      exact ⟨a, cap, h2, own_cap h3, own_tokAt2 h3, hb⟩
    · rw [hn] at h1; cases h1
  have HL := Lib.hid hL
  clear hL hs hm hn
  go_enter Tryd.func35, Tryd.ntmps35
  go_wp2_with fail
  refine HL.out.mono ?_
  rintro e w1 ⟨a, cap, rfl, hc, ht, hb⟩
  have hrow := RowAt.new w1 133 #[.slice a T.length cap, .int .i64 (s.length : Nat)]
  have hb2 := (Below.refl w1.heap.size w1).alloc (Nat.le_refl _) (.cells #[.slice a T.length cap, .int .i64 (s.length : Nat)] 133)
  have HR : Hid ((∀ W : World, (∀ k, w.heap.size ≤ k → k < (w1.alloc (.cells #[.slice a T.length cap, .int .i64 (s.length : Nat)] 133)).heap.size → W.heap[k]? = (w1.alloc (.cells #[.slice a T.length cap, .int .i64 (s.length : Nat)] 133)).heap[k]?) → Rdr W w1.heap.size T s.length) ∧ w.heap.size ≤ w1.heap.size ∧ w1.heap.size < (w1.alloc (.cells #[.slice a T.length cap, .int .i64 (s.length : Nat)] 133)).heap.size ∧ Below w.heap.size w (w1.alloc (.cells #[.slice a T.length cap, .int .i64 (s.length : Nat)] 133))) := Lib.hid ⟨fun W hW => ⟨a, cap, hrow.of_heap (hW w1.heap.size hb.size (by simp)), hc, ht W w1.heap.size (Nat.le_refl _) fun k h1 h2 => (hW k h1 (by simp; omega)).trans (hb2.block k h2)⟩, hb.size, by simp, hb.trans (hb2.mono hb.size)⟩
  clear hrow hb2 hc ht hb
  go_wp2_with fail
  go_ret2
  exact ⟨_, rfl, HR.out⟩
set_option maxRecDepth 100000 in
set_option maxHeartbeats 1000000 in
theorem catch_thrown (pb : Nat) (x : Value) (g : Nat) (older : List PanicEntry) (w : World) (hc : w.cell? ⟨pb, 0, none⟩ = some x) (hz : w.frozen? ⟨pb, 0, none⟩ = false) (hp : pb < w.heap.size) :
    CallsD Tryd.prog 36 #[.pointer (some ⟨pb, 0, none⟩)] (.panicking ({ v := .iface 135 (.agg #[.iface 88 (.pointer (some ⟨g, 0, none⟩))]), recovered := false } :: older)) w fun e u' w' =>
      e = .returned (.tuple #[]) ∧ u' = .panicking ({ v := .iface 135 (.agg #[.iface 88 (.pointer (some ⟨g, 0, none⟩))]), recovered := true } :: older) ∧ ∃ o, w' = (w.setCell ⟨pb, 0, none⟩ (.iface 88 (.pointer (some ⟨g, 0, none⟩)))).alloc o := by
  refine callsD_of_wpS Tryd.func36 rfl fun c₀ cs hu => ?_
  simp only [Tryd.ntmps36, List.size_toArray, List.length_cons, List.length_nil, Nat.reduceAdd, Nat.reduceSub, Array.replicate_succ, Array.replicate_zero, List.push_toArray, List.append_toArray, List.nil_append, List.cons_append]
  apply wpS_seq
  apply wpS_region
  simp [wpOpsS, go_sem, recoverD, hu, Tryd.ntmps36, Exit.thenS]
  refine wpS_of_wp ?_
  have hta : ∀ V : World, (Instr.typeAssert (.iface 135 (.agg #[.iface 88 (.pointer (some ⟨g, 0, none⟩))])) 20 135 true).run Tryd.prog V = .ok (.tuple #[.agg #[.iface 88 (.pointer (some ⟨g, 0, none⟩))], .bool true]) V := fun V => by kernel_rfl
  go_wp2_with fail
  exact ⟨rfl, _, rfl, .tuple #[], results_none rfl _ _ _, rfl, rfl, _, rfl⟩
set_option maxRecDepth 100000 in
set_option maxHeartbeats 1000000 in
theorem catch_idle (pb : Nat) (w : World) :
    CallsD Tryd.prog 36 #[.pointer (some ⟨pb, 0, none⟩)] .returning w fun e u' w' => e = .returned (.tuple #[]) ∧ u' = .returning ∧ w' = w := by
  refine callsD_of_wpS Tryd.func36 rfl fun c₀ cs hu => ?_
  simp only [Tryd.ntmps36, List.size_toArray, List.length_cons, List.length_nil, Nat.reduceAdd, Nat.reduceSub, Array.replicate_succ, Array.replicate_zero, List.push_toArray, List.append_toArray, List.nil_append, List.cons_append]
  apply wpS_seq
  apply wpS_region
  simp [wpOpsS, go_sem, recoverD, hu, Tryd.ntmps36, Exit.thenS]
  refine wpS_of_wp ?_
  go_wp2_with fail
  cases c₀
  simp_all [bodyPostS, results, Tryd.results36]
end Go.Proofs.YtnmbakibiaedhaaDoor
