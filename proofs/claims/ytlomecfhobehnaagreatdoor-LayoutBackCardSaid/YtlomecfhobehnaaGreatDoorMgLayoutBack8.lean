/- Contracts of expr.hold and expr.Text. -/
import Derived.Tactics2
import Derived.Defers
import Derived.Recover
import Derived.Deep.RegionHeld3
import Derived.Test.YtlomecfhobehnaaGreatDoorMgLayoutBack7
section
/- Contracts of lex.Read, lex.Catch. -/
namespace Go.Proofs.YtlomecfhobehnaaGreatDoor
open Go.RowKit
set_option linter.unusedVariables false
set_option linter.unusedSimpArgs false
open Rd
namespace Rd
theorem tokCells_len (T : List Tok) : (tokCells T).length = T.length * 2 := by
  induction T with
  | nil => rfl
  | cons t T ih => simp only [tokCells, List.flatMap_cons, List.length_append, List.length_cons] at ih ⊢; rw [ih]; simp [tokCell]; omega
theorem tokCells_get : ∀ (T : List Tok) (k : Nat), k < T.length → (tokCells T)[k * 2]? = some (.string (bstr (T.getD k ([], 0)).1)) ∧ (tokCells T)[k * 2 + 1]? = some (.int .i64 ((T.getD k ([], 0)).2 : Nat)) := by
  intro T
  induction T with
  | nil => intro k h; simp at h
  | cons t T ih =>
    intro k h
    have e : tokCells (t :: T) = tokCell t ++ tokCells T := by simp [tokCells]
    cases k with
    | zero => rw [e]; simp [tokCell]
    | succ k =>
      have := ih k (by simpa using h)
      rw [e, List.getD_cons_succ, show (k + 1) * 2 = (tokCell t).length + k * 2 by simp [tokCell]; omega, List.getElem?_append_right (by omega), show (tokCell t).length + k * 2 + 1 = (tokCell t).length + (k * 2 + 1) by omega, List.getElem?_append_right (by omega)]
      simpa using this
theorem own_tokAt {w : World} {B n cap rb : Nat} {a : Option Addr} {T : List Tok} (h : Owns w B 162 2 a n cap (tokCells T)) (hrb : w.heap.size ≤ rb) : TokAt w rb a T := by
  cases a with
  | none =>
    have h3 := h.of_none.2.2
    left
    cases T with
    | nil => rfl
    | cons t T => simp [tokCells, tokCell] at h3
  | some x =>
    obtain ⟨h1, h2, h3, h4, h5⟩ := h.row
    refine .inr ⟨x.block, 0, by rw [← h1], Nat.lt_of_lt_of_le h5.lt hrb, fun j hj => ?_⟩
    obtain ⟨g1, g2⟩ := tokCells_get T j hj
    have hl := tokCells_len T
    have c1 := h5.cell0 (j * 2) (by omega)
    have c2 := h5.cell0 (j * 2 + 1) (by omega)
    rw [List.getElem?_eq_getElem (by omega : j * 2 < (tokCells T).length)] at g1
    rw [List.getElem?_eq_getElem (by omega : j * 2 + 1 < (tokCells T).length)] at g2
    rw [Nat.zero_add]
    exact ⟨by rw [c1]; exact g1, by rw [c2]; exact g2⟩
/-- .. and no older than B -/
theorem own_tokAt2 {w : World} {B n cap : Nat} {a : Option Addr} {T : List Tok} (h : Owns w B 162 2 a n cap (tokCells T)) : ∀ (W : World) (rb : Nat), w.heap.size ≤ rb → (∀ k, B ≤ k → k < w.heap.size → W.heap[k]? = w.heap[k]?) → TokAt W rb a T := by
  intro W rb hrb hW
  rcases own_tokAt h hrb with h1 | ⟨g, off, h1, h2, h3⟩
  · exact .inl h1
  · subst h1
    have hb := hW g h.lt.1 h.lt.2
    exact .inr ⟨g, off, rfl, h2, fun j hj => ⟨(World.cell?_of_block (a := ⟨g, off + j * 2, none⟩) hb).trans (h3 j hj).1, (World.cell?_of_block (a := ⟨g, off + j * 2 + 1, none⟩) hb).trans (h3 j hj).2⟩⟩
theorem own_cap {w : World} {B n cap : Nat} {a : Option Addr} {xs : List Value} {size : Nat} {e : TypeId} (h : Owns w B e size a n cap xs) : n ≤ cap := by
  cases a with
  | none => have := h.of_none; omega
  | some x => exact h.row.2.2.1
end Rd
set_option maxRecDepth 100000 in
theorem Lex_long (s : List UInt8) (w : World) (hs : 3000 < s.length) (hs2 : s.length ≤ 1000000) :
    Calls Tryz.prog 84 #[.string (bstr s)] w fun e w' => e = .returned (.tuple #[.slice none 0 0, .iface 48 (.int .i64 4)]) ∧ w' = w := by
  have hbig : decide ((3000 : Int) < (s.length : Int)) = true := by rw [decide_eq_true_eq]; omega
  go_enter Tryz.func84, Tryz.ntmps84
  go_wp2_with fail
  go_ret2
  exact ⟨rfl, rfl⟩
set_option maxRecDepth 100000 in
theorem LexRead_long (s : List UInt8) (w : World) (hs : 3000 < s.length) (hs2 : s.length ≤ 1000000) :
    Calls Tryz.prog 48 #[.string (bstr s)] w fun e w' => e = .returned (.tuple #[.pointer none, .iface 48 (.int .i64 4)]) ∧ w' = w := by
  have HL := Lib.hid (Lex_long s w hs hs2)
  clear hs hs2
  go_enter Tryz.func48, Tryz.ntmps48
  go_wp2_with fail
  refine HL.out.mono ?_
  rintro e w1 ⟨rfl, rfl⟩
  go_wp2_with fail
  go_ret2
  exact ⟨rfl, rfl⟩
set_option maxRecDepth 100000 in
theorem LexRead_bad (s : List UInt8) (w : World) (hs : s.length ≤ 3000) (hm : MarksAt w) (hn : Lex.lexA s 0 = none) :
    Calls Tryz.prog 48 #[.string (bstr s)] w fun e w' => (∃ g, e = .returned (.tuple #[.pointer none, .iface 120 (.pointer (some ⟨g, 0, none⟩))])) ∧ Below w.heap.size w w' := by
  have hL : Calls Tryz.prog 84 #[.string (bstr s)] w fun e w' => (∃ g, e = .returned (.tuple #[.slice none 0 0, .iface 120 (.pointer (some ⟨g, 0, none⟩))])) ∧ Below w.heap.size w w' := (Lex_any s w hs hm).mono fun e w' ⟨hb, h⟩ => by
    rcases h with ⟨T, a, cap, h1, _⟩ | ⟨_, g, h2⟩
    · rw [hn] at h1; cases h1
    · exact ⟨⟨g, h2⟩, hb⟩
  have HL := Lib.hid hL
  clear hL hs hm hn
  go_enter Tryz.func48, Tryz.ntmps48
  go_wp2_with fail
  refine HL.out.mono ?_
  rintro e w1 ⟨⟨g, rfl⟩, hb⟩
  go_wp2_with fail
  go_ret2
  exact ⟨⟨g, rfl⟩, hb⟩
set_option maxRecDepth 100000 in
theorem LexRead_ok (s : List UInt8) (T : List Rd.Tok) (w : World) (hs : s.length ≤ 3000) (hm : MarksAt w) (hn : Lex.lexA s 0 = some T) :
    Calls Tryz.prog 48 #[.string (bstr s)] w fun e w' => ∃ rb, e = .returned (.tuple #[.pointer (some ⟨rb, 0, none⟩), .nilIface]) ∧ (∀ W : World, (∀ k, w.heap.size ≤ k → k < w'.heap.size → W.heap[k]? = w'.heap[k]?) → Rdr W rb T s.length) ∧ w.heap.size ≤ rb ∧ rb < w'.heap.size ∧ Below w.heap.size w w' := by
  have hL : Calls Tryz.prog 84 #[.string (bstr s)] w fun e w' => ∃ a cap, e = .returned (.tuple #[.slice a T.length cap, .nilIface]) ∧ T.length ≤ cap ∧ (∀ (W : World) (rb : Nat), w'.heap.size ≤ rb → (∀ k, w.heap.size ≤ k → k < w'.heap.size → W.heap[k]? = w'.heap[k]?) → TokAt W rb a T) ∧ Below w.heap.size w w' := (Lex_any s w hs hm).mono fun e w' ⟨hb, h⟩ => by
    rcases h with ⟨T', a, cap, h1, h2, h3⟩ | ⟨h1, _⟩
    · rw [hn] at h1
      cases h1
      exact ⟨a, cap, h2, own_cap h3, own_tokAt2 h3, hb⟩
    · rw [hn] at h1; cases h1
  have HL := Lib.hid hL
  clear hL hs hm hn
  go_enter Tryz.func48, Tryz.ntmps48
  go_wp2_with fail
  refine HL.out.mono ?_
  rintro e w1 ⟨a, cap, rfl, hc, ht, hb⟩
  have hrow := RowAt.new w1 157 #[.slice a T.length cap, .int .i64 (s.length : Nat)]
  have hb2 := (Below.refl w1.heap.size w1).alloc (Nat.le_refl _) (.cells #[.slice a T.length cap, .int .i64 (s.length : Nat)] 157)
  have HR : Hid ((∀ W : World, (∀ k, w.heap.size ≤ k → k < (w1.alloc (.cells #[.slice a T.length cap, .int .i64 (s.length : Nat)] 157)).heap.size → W.heap[k]? = (w1.alloc (.cells #[.slice a T.length cap, .int .i64 (s.length : Nat)] 157)).heap[k]?) → Rdr W w1.heap.size T s.length) ∧ w.heap.size ≤ w1.heap.size ∧ w1.heap.size < (w1.alloc (.cells #[.slice a T.length cap, .int .i64 (s.length : Nat)] 157)).heap.size ∧ Below w.heap.size w (w1.alloc (.cells #[.slice a T.length cap, .int .i64 (s.length : Nat)] 157))) := Lib.hid ⟨fun W hW => ⟨a, cap, hrow.of_heap (hW w1.heap.size hb.size (by simp)), hc, ht W w1.heap.size (Nat.le_refl _) fun k h1 h2 => (hW k h1 (by simp; omega)).trans (hb2.block k h2)⟩, hb.size, by simp, hb.trans (hb2.mono hb.size)⟩
  clear hrow hb2 hc ht hb
  go_wp2_with fail
  go_ret2
  exact ⟨_, rfl, HR.out⟩
set_option maxRecDepth 100000 in
set_option maxHeartbeats 1000000 in
theorem catch_thrown (pb : Nat) (x : Value) (g : Nat) (older : List PanicEntry) (w : World) (hc : w.cell? ⟨pb, 0, none⟩ = some x) (hz : w.frozen? ⟨pb, 0, none⟩ = false) (hp : pb < w.heap.size) :
    CallsD Tryz.prog 49 #[.pointer (some ⟨pb, 0, none⟩)] (.panicking ({ v := .iface 159 (.agg #[.iface 120 (.pointer (some ⟨g, 0, none⟩))]), recovered := false } :: older)) w fun e u' w' =>
      e = .returned (.tuple #[]) ∧ u' = .panicking ({ v := .iface 159 (.agg #[.iface 120 (.pointer (some ⟨g, 0, none⟩))]), recovered := true } :: older) ∧ ∃ o, w' = (w.setCell ⟨pb, 0, none⟩ (.iface 120 (.pointer (some ⟨g, 0, none⟩)))).alloc o := by
  refine callsD_of_wpS Tryz.func49 rfl fun c₀ cs hu => ?_
  simp only [Tryz.ntmps49, List.size_toArray, List.length_cons, List.length_nil, Nat.reduceAdd, Nat.reduceSub, Array.replicate_succ, Array.replicate_zero, List.push_toArray, List.append_toArray, List.nil_append, List.cons_append]
  apply wpS_seq
  apply wpS_region
  simp [wpOpsS, go_sem, recoverD, hu, Tryz.ntmps49, Exit.thenS]
  refine wpS_of_wp ?_
  have hta : ∀ V : World, (Instr.typeAssert (.iface 159 (.agg #[.iface 120 (.pointer (some ⟨g, 0, none⟩))])) 20 159 true).run Tryz.prog V = .ok (.tuple #[.agg #[.iface 120 (.pointer (some ⟨g, 0, none⟩))], .bool true]) V := fun V => by kernel_rfl
  go_wp2_with fail
  exact ⟨rfl, _, rfl, .tuple #[], results_none rfl _ _ _, rfl, rfl, _, rfl⟩
set_option maxRecDepth 100000 in
set_option maxHeartbeats 1000000 in
theorem catch_idle (pb : Nat) (w : World) :
    CallsD Tryz.prog 49 #[.pointer (some ⟨pb, 0, none⟩)] .returning w fun e u' w' => e = .returned (.tuple #[]) ∧ u' = .returning ∧ w' = w := by
  refine callsD_of_wpS Tryz.func49 rfl fun c₀ cs hu => ?_
  simp only [Tryz.ntmps49, List.size_toArray, List.length_cons, List.length_nil, Nat.reduceAdd, Nat.reduceSub, Array.replicate_succ, Array.replicate_zero, List.push_toArray, List.append_toArray, List.nil_append, List.cons_append]
  apply wpS_seq
  apply wpS_region
  simp [wpOpsS, go_sem, recoverD, hu, Tryz.ntmps49, Exit.thenS]
  refine wpS_of_wp ?_
  go_wp2_with fail
  cases c₀
  simp_all [bodyPostS, results, Tryz.results49]
end Go.Proofs.YtlomecfhobehnaaGreatDoor
end
section
/- Errors; what stands behind lex.Read. -/
namespace Go.Proofs.YtlomecfhobehnaaGreatDoor
open Go.RowKit
set_option linter.unusedVariables false
set_option linter.unusedSimpArgs false
open Rd
open Ex (X)
namespace Rd
/-- an error, of number n -/
def ErrIs (w : World) (v : Value) (n : Nat) : Prop := v = .iface 48 (.int .i64 (n : Nat)) ∨ ∃ g p, v = .iface 120 (.pointer (some ⟨g, 0, none⟩)) ∧ RowAt w g 0 122 [.int .i64 (n : Nat), .int .i64 (p : Nat)]
end Rd
theorem IsX.mono {w : World} {rb rb' : Nat} (h : rb' ≤ rb) : ∀ (x : X) (b : Nat), IsX w rb b x → IsX w rb' b x
  | .num a n, b, hx => ⟨Nat.lt_of_le_of_lt h hx.1, hx.2⟩
  | .name a s, b, hx => ⟨Nat.lt_of_le_of_lt h hx.1, hx.2⟩
  | .bin a op l r, b, hx => by
    obtain ⟨bl, br, h1, h2, h3, h4⟩ := hx
    exact ⟨bl, br, Nat.lt_of_le_of_lt h h1, h2, IsX.mono h l bl h3, IsX.mono h r br h4⟩
/-- behind lex.Read, the error's box stored again -/
structure PS (w w2 : World) (rb : Nat) (T : List Rd.Tok) (E : Nat) : Prop where
  rd : Rdr w2 rb T E
  env : Env w2 rb
  box : RowAt w2 w.heap.size 0 30 [.nilIface]
  lt : w.heap.size < rb
  bel : Below w.heap.size w w2
theorem PS.mk' {w w1 : World} {rb : Nat} {T : List Rd.Tok} {E : Nat} (he : Env w w.heap.size) (hr : ∀ W : World, (∀ k, (w.alloc (.cells #[.nilIface] 30)).heap.size ≤ k → k < w1.heap.size → W.heap[k]? = w1.heap[k]?) → Rdr W rb T E) (h1 : (w.alloc (.cells #[.nilIface] 30)).heap.size ≤ rb) (hb : Below (w.alloc (.cells #[.nilIface] 30)).heap.size (w.alloc (.cells #[.nilIface] 30)) w1) :
    PS w (w1.setCell ⟨w.heap.size, 0, none⟩ .nilIface) rb T E := by
  have hbox := (RowAt.new w 30 #[.nilIface]).below hb (by simp)
  have hbb : Below w.heap.size w w1 := ((Below.refl _ w).alloc (Nat.le_refl _) _).trans (hb.mono (by simp))
  have hset := Below.setCell (p := ⟨w.heap.size, 0, none⟩) hbb (Nat.le_refl _) .nilIface
  simp only [World.size_alloc] at h1 hr
  have key : ∀ (p : Addr), p.block < w.heap.size → (w1.setCell ⟨w.heap.size, 0, none⟩ .nilIface).cell? p = w.cell? p := fun p h => hset.cell (p := p) h
  refine ⟨hr _ fun k hk _ => Below.heap_setCell w1 ⟨w.heap.size, 0, none⟩ .nilIface k (by show k ≠ w.heap.size; omega), ⟨⟨by have := he.lv.1; omega, fun k hk => ?_⟩, (key ⟨_, 0, none⟩ he.eb).trans he.er, by have := he.eb; omega⟩, hbox.set0 0 (by simp) .nilIface, by omega, hset⟩
  obtain ⟨gk, ck, e1, e2, e3⟩ := he.lv.2 k hk
  exact ⟨gk, ck, (key ⟨_, k, none⟩ he.lv.1).trans e1, by omega, fun j hj => (key (gk.add j) (by rw [Addr.add_block]; exact e2)).trans (e3 j hj)⟩
end Go.Proofs.YtlomecfhobehnaaGreatDoor
end
section
/- Contracts of expr.hold and expr.Text. -/
namespace Go.Proofs.YtlomecfhobehnaaGreatDoor
open Go.RowKit
set_option linter.unusedVariables false
set_option linter.unusedSimpArgs false
open Rd
open Ex (X levels)
theorem level_index (k : Nat) (hk : k < 3) (a b c : Value) (w : World) : (Instr.index 237 (.agg #[a, b, c]) (.int .i64 (k : Nat))).run Tryz.prog w = .ok (match k with | 0 => a | 1 => b | _ => c) w := by
  rcases (by omega : k = 0 ∨ k = 1 ∨ k = 2) with rfl | rfl | rfl
  · kernel_rfl
  · kernel_rfl
  · kernel_rfl
/-- the table, as it is loaded -/
structure Tab (w : World) (g : Nat → Addr) (c : Nat → Nat) : Prop where
  cell : ∀ k, k < 3 → w.cell? ⟨2, k, none⟩ = some (.slice (some (g k)) (levels k).length (c k))
  row : ∀ k, k < 3 → ∀ j, j < (levels k).length → w.cell? ((g k).add j) = some (.string (bstr ((levels k).getD j [])))
theorem tab_of {w : World} {rb : Nat} (h : LevelsAt w rb) : ∃ g c, Tab w g c := by
  obtain ⟨g0, c0, h0, _, r0⟩ := h.2 0 (by omega)
  obtain ⟨g1, c1, h1, _, r1⟩ := h.2 1 (by omega)
  obtain ⟨g2, c2, h2, _, r2⟩ := h.2 2 (by omega)
  refine ⟨fun k => match k with | 0 => g0 | 1 => g1 | _ => g2, fun k => match k with | 0 => c0 | 1 => c1 | _ => c2, fun k hk => ?_, fun k hk => ?_⟩
  · rcases (by omega : k = 0 ∨ k = 1 ∨ k = 2) with rfl | rfl | rfl
    · exact h0
    · exact h1
    · exact h2
  · rcases (by omega : k = 0 ∨ k = 1 ∨ k = 2) with rfl | rfl | rfl
    · exact r0
    · exact r1
    · exact r2
def sliceK (g : Nat → Addr) (c : Nat → Nat) (k : Nat) : Value := .slice (some (g k)) (levels k).length (c k)
theorem tab_cells {w : World} {g : Nat → Addr} {c : Nat → Nat} (h : Tab w g c) : ∀ j v, (#[sliceK g c 0, sliceK g c 1, sliceK g c 2] : Array Value).toList[j]? = some v → w.cell? ⟨2, j, none⟩ = some v := by
  intro j v hv
  have hj : j < 3 := by
    rcases Nat.lt_or_ge j 3 with h | h
    · exact h
    · rw [List.getElem?_eq_none (by simpa using h)] at hv; cases hv
  rcases (by omega : j = 0 ∨ j = 1 ∨ j = 2) with rfl | rfl | rfl
  · cases hv; exact h.cell 0 (by omega)
  · cases hv; exact h.cell 1 (by omega)
  · cases hv; exact h.cell 2 (by omega)
theorem sliceK_at (g : Nat → Addr) (c : Nat → Nat) (k : Nat) (hk : k < 3) (w : World) : (Instr.index 237 (.agg #[sliceK g c 0, sliceK g c 1, sliceK g c 2]) (.int .i64 (k : Nat))).run Tryz.prog w = .ok (.slice (some (g k)) (levels k).length (c k)) w := by
  rw [level_index k hk]
  rcases (by omega : k = 0 ∨ k = 1 ∨ k = 2) with rfl | rfl | rfl <;> rfl
theorem opLevel_none (op : List UInt8) (h : ∀ k, k < 3 → op ∉ levels k) : Ex.opLevel op = 3 := by
  unfold Ex.opLevel
  rw [if_neg (h 0 (by omega)), if_neg (h 1 (by omega)), if_neg (h 2 (by omega))]
set_option maxRecDepth 100000 in
set_option maxHeartbeats 1000000 in
theorem hold_any (b : Nat) (code : Int) (op : List UInt8) (g : Nat → Addr) (c : Nat → Nat) (w : World) (hT : Tab w g c) (h0 : w.cell? ⟨b, 0, none⟩ = some (.int .i64 code)) (h4 : w.cell? ⟨b, 4, none⟩ = some (.string (bstr op))) :
    Calls Tryz.prog 134 #[.pointer (some ⟨b, 0, none⟩)] w fun e w' => e = .returned (.int .i64 ((if code = 3 then Ex.opLevel op else 3 : Nat) : Int)) ∧ w' = w := by
  obtain ⟨R, hR⟩ : ∃ R, R = (if code = 3 then Ex.opLevel op else 3) := ⟨_, rfl⟩
  have HR := Lib.hid hR
  rw [← hR]
  have HT := Lib.hid hT
  obtain ⟨is3, h3⟩ : ∃ is3 : Bool, is3 = (code == 3) := ⟨_, rfl⟩
  have H3 := Lib.hid h3
  have e3 : (code == 3) = is3 := h3.symm
  clear hR hT h3
  go_enter Tryz.func134, Tryz.ntmps134
  go_wp2_with (with_reducible refine wpList_load_cells rfl 237 _ rfl 2 rfl #[sliceK g c 0, sliceK g c 1, sliceK g c 2] _ (tab_cells HT.out) Tryz.underlying237 rfl rfl ?_)
  go_loop [8] (fun v8 => ∃ k : Nat, v8 = .int .i64 k ∧ k ≤ 3 ∧ Hid (is3 = true → ∀ i, i < k → op ∉ levels i)) (fun v8 => 3 - (intOf v8).toNat)
  case atStart => exact ⟨0, rfl, by omega, Lib.hid (fun _ i hi => by omega)⟩
  case round =>
    obtain ⟨k, rfl, hk, HK⟩ := hrel
    by_cases hlt : k < 3
    · have d1 : decide ((k : Int) < 3) = true := decide_eq_true (by omega)
      have d1n : decide (k < 3) = true := decide_eq_true hlt
      have hidx := sliceK_at g c k hlt
      have hrow := HT.out.row k hlt
      obtain ⟨n, hn⟩ : ∃ n, n = (levels k).length := ⟨_, rfl⟩
      have hn4 : n ≤ 4 := by rw [hn]; exact levels_small k
      rw [← hn] at hidx hrow
      have HN := Lib.hid hn; have HLT := Lib.hid hlt; have HROW := Lib.hid hrow
      clear hn hlt hrow
      go_wp2_with fail
      go_loop [14] (fun v14 => ∃ j : Nat, v14 = .int .i64 j ∧ j ≤ n ∧ Hid (is3 = true → ∀ i, i < j → (levels k).getD i [] ≠ op)) (fun v14 => n - (intOf v14).toNat)
      case atStart => exact ⟨0, rfl, by omega, Lib.hid (fun _ i hi => by omega)⟩
      case round =>
        obtain ⟨j, rfl, hj, HJ⟩ := hrel
        by_cases hjt : j < n
        · have d2 : decide ((j : Int) < (n : Int)) = true := decide_eq_true (by omega)
          have d2n : decide (j < n) = true := decide_eq_true hjt
          have hji : (j : Int) < (n : Int) := by omega
          have cj := HROW.out j hjt
          obtain ⟨sj, hsj⟩ : ∃ sj, sj = (levels k).getD j [] := ⟨_, rfl⟩
          have hsm := (levels_ne k j (by rw [← HN.out]; exact hjt)).2
          rw [← hsj] at cj hsm
          have HSJ := Lib.hid hsj; have HSM := Lib.hid hsm; have HJT := Lib.hid hjt
          clear hsj hsm hjt
          cases is3 with
          | true =>
            by_cases hh : op = sj
            · subst hh
              have hRk : R = k := by
                rw [HR.out, if_pos (by have := H3.out; exact beq_iff_eq.1 this.symm)]
                exact (Ex.level_mark k _ HSM.out).2.1
              have HRK := Lib.hid hRk
              clear hRk
              go_wp2_with fail
              go_ret
              exact ⟨by rw [HRK.out]; rfl, rfl⟩
            · have hne : (op == sj) = false := by rw [beq_eq_false_iff_ne]; exact hh
              have HNE : Hid (true = true → ∀ i, i < j + 1 → (levels k).getD i [] ≠ op) := Lib.hid fun _ i hi => by
                by_cases e : i = j
                · rw [e, ← HSJ.out]; exact fun e => hh e.symm
                · exact HJ.out rfl i (by omega)
              clear hh
              go_wp2_with fail
              go_round
              case rel => exact ⟨j + 1, by go_num, by have := HJT.out; omega, Lib.hid (fun _ => HNE.out rfl)⟩
              case measure => simp [intOf]; have := HJT.out; omega
          | false =>
            go_wp2_with fail
            go_round
            case rel => exact ⟨j + 1, by go_num, by have := HJT.out; omega, Lib.hid (by intro h; cases h)⟩
            case measure => simp [intOf]; have := HJT.out; omega
        · obtain rfl : j = n := by omega
          have d2 : decide ((j : Int) < (j : Int)) = false := by simp
          go_wp2_with fail
          go_round
          case rel =>
            refine ⟨k + 1, by go_num, by have := HLT.out; omega, Lib.hid (fun h i hi => ?_)⟩
            by_cases e : i = k
            · rw [e]; exact not_levels (fun a ha => HJ.out h a (by rw [HN.out]; exact ha))
            · exact HK.out h i (by omega)
          case measure => simp [intOf]; have := HLT.out; omega
    · obtain rfl : k = 3 := by omega
      have hR3 : R = 3 := by
        rw [HR.out]
        split
        · rename_i h
          exact opLevel_none op (fun i hi => HK.out (by rw [H3.out]; exact beq_iff_eq.2 h) i hi)
        · rfl
      have HR3 := Lib.hid hR3
      clear hR3
      go_wp2_with fail
      go_ret
      exact ⟨by rw [HR3.out]; rfl, rfl⟩
/-- how strongly an expression in memory holds together -/
theorem hold_x {w : World} {rb b : Nat} {x : X} (hl : LevelsAt w rb) (h : IsX w rb b x) : Calls Tryz.prog 134 #[.pointer (some ⟨b, 0, none⟩)] w fun e w' => e = .returned (.int .i64 ((Ex.hold x : Nat) : Int)) ∧ w' = w := by
  obtain ⟨g, c, hT⟩ := tab_of hl
  cases x with
  | num a n =>
    have c0 := h.2.cell0 0 (by simp)
    have c4 := h.2.cell0 4 (by simp)
    exact hold_any b 1 [] g c w hT c0 c4
  | name a s =>
    have c0 := h.2.cell0 0 (by simp)
    have c4 := h.2.cell0 4 (by simp)
    exact hold_any b 2 [] g c w hT c0 c4
  | bin a op l r =>
    obtain ⟨bl, br, h1, h2, _⟩ := h
    have c0 := h2.cell0 0 (by simp)
    have c4 := h2.cell0 4 (by simp)
    exact hold_any b 3 op g c w hT c0 c4
/-- Text of an expression; a part of it -/
def TextC (x : X) : Prop := ∀ (w : World) (rb b : Nat), LevelsAt w rb → rb ≤ w.heap.size → IsX w rb b x → (Ex.pr Num.dec x).length ≤ 1000000 →
  Calls Tryz.prog 108 #[.pointer (some ⟨b, 0, none⟩)] w fun e w' => e = .returned (.string (bstr (Ex.pr Num.dec x))) ∧ Below w.heap.size w w'
def partOf (x : X) (least : Nat) : List UInt8 := if Ex.hold x < least then 40 :: (Ex.pr Num.dec x ++ [41]) else Ex.pr Num.dec x
set_option maxRecDepth 100000 in
set_option maxHeartbeats 1000000 in
theorem part_any (x : X) (least : Nat) (w : World) (rb b : Nat) (h : TextC x) (hl : LevelsAt w rb) (hrb : rb ≤ w.heap.size) (hx : IsX w rb b x) (hp : (Ex.pr Num.dec x).length ≤ 1000000) (h4 : least ≤ 4) :
    Calls Tryz.prog 135 #[.pointer (some ⟨b, 0, none⟩), .int .i64 (least : Nat)] w fun e w' => e = .returned (.string (bstr (partOf x least))) ∧ Below w.heap.size w w' := by
  have HH := Lib.hid (hold_x hl hx)
  have HT := Lib.hid (h w rb b hl hrb hx hp)
  unfold partOf
  generalize Ex.hold x = k at *
  generalize Ex.pr Num.dec x = s at *
  clear h hl hrb hx
  have z1 : ¬ 9223372036854775807 < 1 + s.length := by omega
  have z2 : ¬ 9223372036854775807 < 1 + s.length + 1 := by omega
  have z3 : ¬ 9223372036854775807 < s.length + 1 + 1 := by omega
  have z4 : ¬ 9223372036854775807 < s.length + 1 := by omega
  by_cases hk : k < least
  · have d1 : decide ((k : Int) < (least : Int)) = true := decide_eq_true (by omega)
    have d1n : decide (k < least) = true := decide_eq_true hk
    rw [if_pos hk]
    clear hk
    go_enter Tryz.func135, Tryz.ntmps135
    go_wp2_with fail
    refine HH.out.mono ?_
    rintro e w1 ⟨rfl, rfl⟩
    go_wp2_with fail
    refine HT.out.mono ?_
    rintro e w2 ⟨rfl, hb⟩
    go_wp2_with fail
    go_ret
    exact ⟨rfl, hb⟩
  · have d1 : decide ((k : Int) < (least : Int)) = false := decide_eq_false (by omega)
    have d1n : decide (k < least) = false := decide_eq_false hk
    rw [if_neg hk]
    clear hk
    go_enter Tryz.func135, Tryz.ntmps135
    go_wp2_with fail
    refine HH.out.mono ?_
    rintro e w1 ⟨rfl, rfl⟩
    go_wp2_with fail
    refine HT.out.mono ?_
    rintro e w2 ⟨rfl, hb⟩
    go_wp2_with fail
    go_ret
    exact ⟨rfl, hb⟩
end Go.Proofs.YtlomecfhobehnaaGreatDoor
end
