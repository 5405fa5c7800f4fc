/- Trees of pieces in memory; the contracts of size, high, join. -/
import Derived.Test.YtenhblpegobbjaaChecked
import Derived.Test.YtenhblpegobbjaaMem
import Derived.Test.YtenhblpegobbjaaPlainPiece2
namespace Go.Proofs.Ytenhblpegobbjaa
open Go.RowKit
open Piece
set_option linter.unusedVariables false
set_option linter.unusedSimpArgs false
/-- a tree lies at p, in blocks below n₀ -/
def IsTr (n₀ : Nat) (W : World) : Option Addr → Tr → Prop
  | p, .nil => p = none
  | p, .node l s r => ∃ (b : Nat) (pl pr : Option Addr), p = some ⟨b, 0, none⟩ ∧ b < n₀ ∧ W.cell? ⟨b, 0, none⟩ = some (.string (bstr s)) ∧ W.cell? ⟨b, 1, none⟩ = some (.int .i64 ((Tr.node l s r).text.length : Nat)) ∧ W.cell? ⟨b, 2, none⟩ = some (.int .i64 ((Tr.node l s r).high : Nat)) ∧ W.cell? ⟨b, 3, none⟩ = some (.pointer pl) ∧ W.cell? ⟨b, 4, none⟩ = some (.pointer pr) ∧ IsTr n₀ W pl l ∧ IsTr n₀ W pr r
theorem IsTr.below {n₀ : Nat} {A B : World} (h : Below n₀ A B) : ∀ {p : Option Addr} {T : Tr}, IsTr n₀ A p T → IsTr n₀ B p T
  | _, .nil, ht => ht
  | _, .node _ _ _, ⟨b, pl, pr, hp, hb, h0, h1, h2, h3, h4, hl, hr⟩ => ⟨b, pl, pr, hp, hb, (h.cell (p := ⟨b, 0, none⟩) hb).trans h0, (h.cell (p := ⟨b, 1, none⟩) hb).trans h1, (h.cell (p := ⟨b, 2, none⟩) hb).trans h2, (h.cell (p := ⟨b, 3, none⟩) hb).trans h3, (h.cell (p := ⟨b, 4, none⟩) hb).trans h4, IsTr.below h hl, IsTr.below h hr⟩
theorem IsTr.up {n₀ n₁ : Nat} {W : World} (h : n₀ ≤ n₁) : ∀ {p : Option Addr} {T : Tr}, IsTr n₀ W p T → IsTr n₁ W p T
  | _, .nil, ht => ht
  | _, .node _ _ _, ⟨b, pl, pr, hp, hb, h0, h1, h2, h3, h4, hl, hr⟩ => ⟨b, pl, pr, hp, Nat.lt_of_lt_of_le hb h, h0, h1, h2, h3, h4, IsTr.up h hl, IsTr.up h hr⟩
theorem IsTr.keep {A B : World} {p : Option Addr} {T : Tr} (h : IsTr A.heap.size A p T) (hb : Below A.heap.size A B) : IsTr B.heap.size B p T := (h.below hb).up hb.size
theorem IsTr.drewN {n₀ : Nat} {W : World} {p : Option Addr} {T : Tr} (h : IsTr n₀ W p T) (k : Nat) : IsTr n₀ (W.drewN k) p T := h.below (bdrewN (Below.refl _ _) k)
/-- a new node -/
theorem IsTr.new {W : World} {pl pr : Option Addr} {l r : Tr} {s : List UInt8} {t : TypeId} (hl : IsTr W.heap.size W pl l) (hr : IsTr W.heap.size W pr r) :
    IsTr (W.alloc (.cells #[.string (bstr s), .int .i64 ((Tr.node l s r).text.length : Nat), .int .i64 ((Tr.node l s r).high : Nat), .pointer pl, .pointer pr] t)).heap.size (W.alloc (.cells #[.string (bstr s), .int .i64 ((Tr.node l s r).text.length : Nat), .int .i64 ((Tr.node l s r).high : Nat), .pointer pl, .pointer pr] t)) (some ⟨W.heap.size, 0, none⟩) (.node l s r) := by
  have hrow := RowAt.new W t #[.string (bstr s), .int .i64 ((Tr.node l s r).text.length : Nat), .int .i64 ((Tr.node l s r).high : Nat), .pointer pl, .pointer pr]
  have hb := (Below.refl W.heap.size W).alloc (Nat.le_refl _) (.cells #[.string (bstr s), .int .i64 ((Tr.node l s r).text.length : Nat), .int .i64 ((Tr.node l s r).high : Nat), .pointer pl, .pointer pr] t)
  exact ⟨W.heap.size, pl, pr, rfl, by simp, hrow.cell0 0 (by simp), hrow.cell0 1 (by simp), hrow.cell0 2 (by simp), hrow.cell0 3 (by simp), hrow.cell0 4 (by simp), (hl.below hb).up hb.size, (hr.below hb).up hb.size⟩
/-- what a call answers that makes a tree -/
def TrOut (w : World) (T : Tr) (e : Ending) (w' : World) : Prop := ∃ p, e = .returned (.pointer p) ∧ IsTr w'.heap.size w' p T ∧ Below w.heap.size w w'
theorem size_any (n₀ : Nat) (p : Option Addr) (T : Tr) (w : World) (h : IsTr n₀ w p T) :
    Calls Try.prog 52 #[.pointer p] w fun e w' => e = .returned (.int .i64 (T.text.length : Nat)) ∧ w = w' := by
  cases T with
  | nil =>
    obtain rfl : p = none := h
    go_enter Try.func52, Try.ntmps52
    go_wp2_with fail
    go_ret
    exact ⟨rfl, rfl⟩
  | node l s r =>
    obtain ⟨b, pl, pr, rfl, hb, h0, h1, h2, h3, h4, hl, hr⟩ := h
    generalize (Tr.node l s r).text.length = n at *
    go_enter Try.func52, Try.ntmps52
    go_wp2_with fail
    go_ret
    exact ⟨rfl, rfl⟩
theorem high_any (n₀ : Nat) (p : Option Addr) (T : Tr) (w : World) (h : IsTr n₀ w p T) :
    Calls Try.prog 51 #[.pointer p] w fun e w' => e = .returned (.int .i64 (T.high : Nat)) ∧ w = w' := by
  cases T with
  | nil =>
    obtain rfl : p = none := h
    go_enter Try.func51, Try.ntmps51
    go_wp2_with fail
    go_ret
    exact ⟨rfl, rfl⟩
  | node l s r =>
    obtain ⟨b, pl, pr, rfl, hb, h0, h1, h2, h3, h4, hl, hr⟩ := h
    generalize (Tr.node l s r).high = n at *
    go_enter Try.func51, Try.ntmps51
    go_wp2_with fail
    go_ret
    exact ⟨rfl, rfl⟩
theorem w64a (a b : Nat) (h : a + b ≤ 4000000) : wrap64 ((a : Int) + (b : Int)) = ((a + b : Nat) : Int) := by
  rw [IntWalk.wrap64_in _ ⟨by omega, by omega⟩]; omega
theorem w64b (b : Nat) (h : b ≤ 4000000) : wrap64 ((1 : Int) + (b : Int)) = ((1 + b : Nat) : Int) := by
  rw [IntWalk.wrap64_in _ ⟨by omega, by omega⟩]; omega
set_option maxRecDepth 100000 in
set_option maxHeartbeats 1000000 in
theorem join_any (pl pr : Option Addr) (l r : Tr) (s : List UInt8) (w : World) (hl : IsTr w.heap.size w pl l) (hr : IsTr w.heap.size w pr r) (hw : Tr.wt l + s.length + 1 + Tr.wt r ≤ 1000000) :
    Calls Try.prog 46 #[.pointer pl, .string (bstr s), .pointer pr] w (TrOut w (.node l s r)) := by
  have k1 := l.text_len_wt
  have k2 := r.text_len_wt
  have k3 := l.high_wt
  have k4 := r.high_wt
  have e1 : (Tr.node l s r).text.length = l.text.length + s.length + r.text.length := by simp only [Tr.text, List.length_append]
  have e2 : (Tr.node l s r).high = 1 + max l.high r.high := rfl
  have hn : TrOut w (.node l s r) (.returned (.pointer (some ⟨w.heap.size, 0, none⟩))) (w.alloc (.cells #[.string (bstr s), .int .i64 ((Tr.node l s r).text.length : Nat), .int .i64 ((Tr.node l s r).high : Nat), .pointer pl, .pointer pr] 135)) :=
    ⟨_, rfl, IsTr.new hl hr, (Below.refl _ w).alloc (Nat.le_refl _) _⟩
  rw [e1, e2] at hn
  have s1 := size_any _ pl l w hl
  have s2 := size_any _ pr r w hr
  have t1 := high_any _ pl l w hl
  have t2 := high_any _ pr r w hr
  generalize l.text.length = nl at *
  generalize r.text.length = nr at *
  generalize l.high = xl at *
  generalize r.high = xr at *
  have b1 : nl + s.length + nr ≤ 1000000 := by omega
  have b2 : xl ≤ 1000000 := by omega
  have b3 : xr ≤ 1000000 := by omega
  clear e1 e2 k1 k2 k3 k4 hw
  have HN := Lib.hid hn; clear hn
  have S1 := Lib.hid s1; have S2 := Lib.hid s2; have T1 := Lib.hid t1; have T2 := Lib.hid t2
  clear s1 s2 t1 t2 hl hr
  go_enter Try.func46, Try.ntmps46
  go_wp2_with fail
  refine S1.out.mono ?_
  rintro e w' ⟨rfl, rfl⟩
  go_wp2_with fail
  refine S2.out.mono ?_
  rintro e w' ⟨rfl, rfl⟩
  go_wp2_with fail
  refine T1.out.mono ?_
  rintro e w' ⟨rfl, rfl⟩
  go_wp2_with fail
  refine T2.out.mono ?_
  rintro e w' ⟨rfl, rfl⟩
  go_wp2_with fail
  · have h : xl < xr := by assumption
    have hn := HN.out
    rw [show max xl xr = xr by omega] at hn
    push_cast at hn
    go_ret
    exact hn
  · have h : ¬ xl < xr := by assumption
    have hn := HN.out
    rw [show max xl xr = xl by omega] at hn
    push_cast at hn
    go_ret
    exact hn
end Go.Proofs.Ytenhblpegobbjaa
