/- Contracts for spans: Has; a slice of spans that came in. -/
import Derived.Test.YtnldobfafaajjaaSpansE
import Derived.Deep.SlicePairs
namespace Go.Proofs.Ytnldobfafaajjaa
open Go.RowKit
set_option linter.unusedVariables false
set_option linter.unusedSimpArgs false
open Go.ChangeShapes Go.WideShapes in
theorem open_spans {H : Type} {enc : TypeId × Value → H} {W : World} {A : Option Addr} {len cap : Nat} {x : DataW H × List MemPlace} (h : ∃ fuel, DataW.trod enc Try.prog W 0 (fun _ => true) true fuel 32 [.slice A len cap] = some x) :
    ∃ l : List Spans.Sp, ReadsSp W W.heap.size A len cap l := by
  obtain ⟨fuel, h⟩ := h
  rcases Go.Deep.open_slice_pairs Try.underlying32 Try.underlying37 (by kernel_rfl) rfl rfl (by kernel_rfl) (by kernel_rfl) h with ⟨hc, hx⟩ | ⟨a, l', c', m, k, V0, V1, D0, D1, P0, P1, hc, _, hl, hm, hmm, hx, hall⟩
  · simp only [List.cons.injEq, and_true, Value.slice.injEq] at hc
    obtain ⟨rfl, rfl, rfl⟩ := hc
    exact ⟨[], rfl, Nat.le_refl _, fun k hk => by omega⟩
  · simp only [List.cons.injEq, and_true, Value.slice.injEq] at hc
    obtain ⟨rfl, rfl, rfl⟩ := hc
    simp only [if_true] at hmm
    subst hmm
    have each : ∀ i, i < m → ∃ q : Spans.Sp, V0 i = .int .i64 q.1 ∧ V1 i = .int .i64 q.2 := fun i hi => by
      obtain ⟨n0, h1, _, _⟩ := DataW.trod_int Try.underlying3 (hall i hi).2.2.1
      obtain ⟨n1, h2, _, _⟩ := DataW.trod_int Try.underlying3 (hall i hi).2.2.2
      simp only [List.cons.injEq, and_true] at h1 h2
      exact ⟨(n0, n1), h1, h2⟩
    have pick : ∀ i, ∃ q : Spans.Sp, i < m → V0 i = .int .i64 q.1 ∧ V1 i = .int .i64 q.2 := fun i => by
      by_cases hi : i < m
      · obtain ⟨q, hq⟩ := each i hi
        exact ⟨q, fun _ => hq⟩
      · exact ⟨(0, 0), fun h => absurd h hi⟩
    refine ⟨(List.range len).map fun i => (pick i).choose, by simp, hl, fun k hk => ?_⟩
    obtain ⟨sb, so, spot⟩ := a
    have hspot : spot = none := by simpa [Addr.add] using World.cell?_spot (hall 0 (by omega)).1
    subst hspot
    have hk1 := (hall k (by omega)).1
    have hk2 := (hall k (by omega)).2.1
    rw [Go.WideShapes.add_plain] at hk1 hk2
    have hq := (pick k).choose_spec (by omega)
    have hg : ((List.range len).map fun i => (pick i).choose).getD k (0, 0) = (pick k).choose := by
      rw [List.getD_eq_getElem?_getD, List.getElem?_map, List.getElem?_range hk]
      rfl
    rw [hg]
    refine ⟨sb, so, rfl, World.block_lt_of_cell? _ _ hk1, ?_, ?_⟩
    · rw [← hq.1]; exact hk1
    · rw [← hq.2]; exact hk2
/-- the search -/
def HasOut (l : List Spans.Sp) (at_ : Int) (n : Nat) (w : World) (e : Ending) (w' : World) : Prop := ∃ r : Int, e = .returned (.int .i64 r) ∧ decide (0 ≤ r) = Spans.has l at_ ∧ Below w.heap.size w w'
set_option maxRecDepth 100000 in
set_option maxHeartbeats 1000000 in
theorem index_sp (x : Option Addr) (n cap : Nat) (l : List Spans.Sp) (at_ : Int) (bx : Nat) (w : World) (hl : ReadsSp w w.heap.size x n cap l) (hn : n ≤ 100000) (hc : w.cell? ⟨bx, 0, none⟩ = some (.int .i64 at_)) :
    Calls Try.prog 53 #[.slice x n cap, .func (.func 39) #[] #[.pointer (some ⟨bx, 0, none⟩)]] w (HasOut l at_ n w) := by
  have hbx : bx < w.heap.size := World.block_lt_of_cell? _ _ hc
  obtain ⟨B, hB⟩ : ∃ B, B = w.heap.size := ⟨_, rfl⟩
  unfold HasOut
  rw [← hB] at hl hbx ⊢
  have HB := Lib.hid hB; clear hB
  have HLN := Lib.hid hl.1
  have HL := Lib.hid hl; clear hl
  have HC := Lib.hid hc; clear hc
  go_enter Try.func53, Try.ntmps53
  go_wp2_with fail
  go_loopw [8] (fun v8 wr => ∃ (k : Nat), k ≤ n ∧ v8 = .int .i64 k ∧ Hid (Spans.has l at_ = Spans.has (l.drop k) at_) ∧ Below B w wr) (fun v8 _ => n - (intOf v8).toNat)
  case atStart => exact ⟨0, by omega, rfl, Lib.hid (by rw [List.drop_zero]), Below.refl _ _⟩
  case round =>
    obtain ⟨k, hk, rfl, HS, hbe⟩ := hrel
    have hbB : B ≤ wr.heap.size := by have := hbe.size; have := HB.out; omega
    by_cases hkn : k < n
    · obtain ⟨g, off, rfl, hg, hc0, hc1⟩ := (HL.out.below hbe).2.2 k hkn
      have hlt : k < l.length := by rw [HLN.out]; exact hkn
      have hdr : l.drop k = l.getD k (0, 0) :: l.drop (k + 1) := by
        rw [List.getD_eq_getElem?_getD, List.getElem?_eq_getElem hlt]
        exact List.drop_eq_getElem_cons _
      have hs := HS.out
      rw [hdr, Spans.has_cons] at hs
      clear hdr HS
      have hcb := (hbe.cell (p := ⟨bx, 0, none⟩) hbx).trans HC.out
      have hask := has1 (l.getD k (0, 0)) at_ bx wr hcb (by omega)
      generalize l.getD k (0, 0) = y at *
      obtain ⟨f, t⟩ := y
      simp only [] at hc0 hc1 hask hs
      have hkI : (k : Int) < (n : Int) := by omega
      have HASK := Lib.hid hask; clear hask hcb
      cases hv : (decide (f ≤ at_) && decide (at_ < t)) with
      | true =>
        rw [hv, Bool.true_or] at hs
        rw [hv] at HASK
        have HS2 := Lib.hid hs; clear hs hv
        go_wp2_with fail
        refine HASK.out.mono ?_
        rintro e w2 ⟨rfl, hb2⟩
        go_wp2_with fail
        go_ret
        exact ⟨(k : Int), rfl, by rw [HS2.out, decide_eq_true_eq]; omega, hbe.trans (hb2.mono hbB)⟩
      | false =>
        rw [hv, Bool.false_or] at hs
        rw [hv] at HASK
        have HS2 := Lib.hid hs; clear hs hv
        go_wp2_with fail
        refine HASK.out.mono ?_
        rintro e w2 ⟨rfl, hb2⟩
        go_wp2_with fail
        go_roundw
        case rel => exact ⟨k + 1, by omega, by go_num, HS2, hbe.trans (hb2.mono hbB)⟩
        case measure => simp [intOf]; omega
    · obtain rfl : k = n := by omega
      have hd : decide ((k : Int) < (k : Int)) = false := by simp
      have hs := HS.out
      rw [List.drop_of_length_le (by rw [HLN.out]; exact Nat.le_refl _)] at hs
      have HS2 := Lib.hid hs; clear hs
      go_wp2_with fail
      go_ret
      exact ⟨-1, rfl, by rw [HS2.out]; rfl, hbe⟩
set_option maxRecDepth 100000 in
theorem Has_any (x : Option Addr) (n cap : Nat) (l : List Spans.Sp) (at_ : Int) (w : World) (hl : ReadsSp w w.heap.size x n cap l) (hn : n ≤ 100000) :
    Calls Try.prog 18 #[.slice x n cap, .int .i64 at_] w fun e w' => e = .returned (.bool (Spans.has l at_)) ∧ Below w.heap.size w w' := by
  have hb := (Below.refl w.heap.size w).alloc (Nat.le_refl _) (.cells #[.int .i64 at_] 3)
  have hrow := RowAt.new w 3 #[.int .i64 at_]
  have hc : (w.alloc (.cells #[.int .i64 at_] 3)).cell? ⟨w.heap.size, 0, none⟩ = some (.int .i64 at_) := hrow.cell0 0 (by simp)
  have hix := index_sp x n cap l at_ w.heap.size _ ((hl.below hb).up hb.size) hn hc
  have hcf : Calls Try.prog 38 #[.slice x n cap, .func (.func 39) #[] #[.pointer (some ⟨w.heap.size, 0, none⟩)]] (w.alloc (.cells #[.int .i64 at_] 3)) fun e w' => e = .returned (.bool (Spans.has l at_)) ∧ Below w.heap.size w w' := by
    have hsz := hb.size
    generalize w.alloc (.cells #[.int .i64 at_] 3) = w1 at *
    generalize w.heap.size = B at *
    have HIX := Lib.hid hix; clear hix hc hrow
    go_enter Try.func38, Try.ntmps38
    go_wp2_with fail
    refine HIX.out.mono ?_
    rintro e w2 ⟨r, rfl, hr, hb2⟩
    go_wp2_with fail
    go_ret
    exact ⟨rfl, hb.trans (hb2.mono hsz)⟩
  have HCF := Lib.hid hcf; clear hcf hix hc hrow hb
  go_enter Try.func18, Try.ntmps18
  go_wp2_with fail
  refine HCF.out.mono ?_
  rintro e w2 ⟨rfl, hb2⟩
  go_wp2_with fail
  go_ret
  exact ⟨rfl, hb2⟩
end Go.Proofs.Ytnldobfafaajjaa
