/- Contract of cut. -/
import Derived.Test.YtenhblpegobbjaaPieceD
namespace Go.Proofs.Ytenhblpegobbjaa
open Go.RowKit
open Piece
set_option linter.unusedVariables false
set_option linter.unusedSimpArgs false
def CutOut (w : World) (x y : Tr) (e : Ending) (w' : World) : Prop := ∃ q1 q2, e = .returned (.tuple #[.pointer q1, .pointer q2]) ∧ IsTr w'.heap.size w' q1 x ∧ IsTr w'.heap.size w' q2 y ∧ Below w.heap.size w w'
theorem bstr_cut (l : List UInt8) (i j : Nat) : (bstr l).extract i j = bstr ((l.drop i).take (j - i)) := by
  rw [eq_bstr ((bstr l).extract i j)]
  congr 1
  rw [ByteArray.data_extract, Array.toList_extract, List.extract_eq_take_drop]
  rfl
theorem i64_in (x : Int) (h : -9223372036854775808 ≤ x) (h' : x ≤ 9223372036854775807) : IntKind.i64.wrap x = x := by
  rw [IntKind.wrap_i64]; omega
set_option maxRecDepth 100000 in
set_option maxHeartbeats 4000000 in
theorem cut_any (T : Tr) : ∀ (p : Option Addr) (k : Nat) (w : World) (h : IsTr w.heap.size w p T) (hw : Tr.wt T ≤ 900000) (hk : k ≤ 900000),
    Calls Try.prog 47 #[.pointer p, .int .i64 k] w (CutOut w (Tr.cut T k).1 (Tr.cut T k).2) := by
  induction T with
  | nil =>
    intro p k w h hw hk
    obtain rfl : p = none := h
    have e : Tr.cut .nil k = (.nil, .nil) := rfl
    rw [e]
    clear e
    go_enter Try.func47, Try.ntmps47
    go_wp2_with fail
    exact bodyPost_ret (v := .tuple #[.pointer none, .pointer none]) (by simp [results, Try.results47, go_sem]) rfl ⟨_, _, rfl, rfl, rfl, Below.refl _ _⟩
  | node l s r ihl ihr =>
    intro p k w h hw hk
    obtain ⟨nb, pa, pb, rfl, hnb, c0, c1, c2, c3, c4, ha, hb⟩ := h
    have hsz := size_any _ pa l w ha
    have hlw := l.text_len_wt
    rw [Tr.wt_node] at hw
    have hL : l.text.length + s.length ≤ 900000 := by omega
    by_cases h1 : k ≤ l.text.length
    · have e1 : (Tr.cut (.node l s r) k).1 = (Tr.cut l k).1 := by rw [Tr.cut, if_pos h1]
      have e2 : (Tr.cut (.node l s r) k).2 = Tr.between (Tr.cut l k).2 s r := by rw [Tr.cut, if_pos h1]
      have hwc := Tr.wt_cut l k
      have hc := ihl pa k w ha (by omega) hk
      rw [e1, e2]
      have hj : ∀ (w1 : World) (q : Option Addr), w1.cell? ⟨nb, 0, none⟩ = some (.string (bstr s)) ∧ w1.cell? ⟨nb, 3, none⟩ = some (.pointer pa) ∧ w1.cell? ⟨nb, 4, none⟩ = some (.pointer pb) ∧ Below w.heap.size w w1 → IsTr w1.heap.size w1 q (Tr.cut l k).2 → Calls Try.prog 49 #[.pointer q, .string (bstr s), .pointer pb] w1 (TrOut w1 (Tr.between (Tr.cut l k).2 s r)) := fun w1 q hb1 hq => between_any _ q pb _ r s w1 (Nat.lt_succ_self _) hq (hb.keep hb1.2.2.2) (by omega)
      unfold CutOut at hc ⊢
      generalize Tr.between (Tr.cut l k).2 s r = T3 at *
      generalize (Tr.cut l k).1 = T1 at *
      generalize (Tr.cut l k).2 = T2 at *
      generalize l.text.length = n at *
      have SZ := Lib.hid hsz; have C := Lib.hid hc; have J := Lib.hid hj
      clear hsz hc hj e1 e2 hwc ihl ihr hb ha c1 c2 hw
      have d1 : decide ((k : Int) ≤ (n : Int)) = true := decide_eq_true (by omega)
      go_enter Try.func47, Try.ntmps47
      go_wp2_with fail
      refine SZ.out.mono ?_
      rintro e w' ⟨rfl, rfl⟩
      go_wp2_with fail
      refine C.out.mono ?_
      rintro e w1 ⟨q1, q2, rfl, ht1, ht2, hb1⟩
      have hc := nodeKeep hb1 hnb ⟨c0, c3, c4, Below.refl _ _⟩
      obtain ⟨c0', c3', c4', hB1⟩ := hc
      clear c0 c3 c4
      go_wp2_with fail
      have ht2' : IsTr w1.drew.heap.size w1.drew q2 T2 := ht2.drewN 1
      have ht1' : IsTr w1.drew.heap.size w1.drew q1 T1 := ht1.drewN 1
      go_region_held3 (fun w1 => w1.cell? ⟨nb, 0, none⟩ = some (.string (bstr s)) ∧ w1.cell? ⟨nb, 3, none⟩ = some (.pointer pa) ∧ w1.cell? ⟨nb, 4, none⟩ = some (.pointer pb) ∧ Below w.heap.size w w1)
        (first
          | exact ⟨c0', c3', c4', hB1.drew⟩
          | exact nodeKeep hbX hnb (by assumption))
        (first
          | (go_at_call 49; ((with_reducible refine (J.out _ _ (by assumption) (by assumption)).mono ?_); rintro e w9 ⟨p9, rfl, ht9, hbX⟩)))
      rename_i hHeld
      have hB := hHeld.2.2.2
      have ht19 := ht1'.keep hbX
      go_wp2_with fail
      exact bodyPost_ret (v := .tuple #[.pointer q1, .pointer p9]) (by simp [results, Try.results47, go_sem]) rfl ⟨_, _, rfl, ht19, ht9, hB⟩
    · by_cases h2 : l.text.length + s.length ≤ k
      · have e1 : (Tr.cut (.node l s r) k).1 = Tr.between l s (Tr.cut r (k - l.text.length - s.length)).1 := by rw [Tr.cut, if_neg h1, if_pos h2]
        have e2 : (Tr.cut (.node l s r) k).2 = (Tr.cut r (k - l.text.length - s.length)).2 := by rw [Tr.cut, if_neg h1, if_pos h2]
        have hwc := Tr.wt_cut r (k - l.text.length - s.length)
        rw [e1, e2]
        have hc : ∀ w1 : World, w1.cell? ⟨nb, 0, none⟩ = some (.string (bstr s)) ∧ w1.cell? ⟨nb, 3, none⟩ = some (.pointer pa) ∧ w1.cell? ⟨nb, 4, none⟩ = some (.pointer pb) ∧ Below w.heap.size w w1 → Calls Try.prog 47 #[.pointer pb, .int .i64 (IntKind.i64.wrap (IntKind.i64.wrap ((k : Int) - (l.text.length : Int)) - (s.length : Int)))] w1 (CutOut w1 (Tr.cut r (k - l.text.length - s.length)).1 (Tr.cut r (k - l.text.length - s.length)).2) := fun w1 hb1 => by
          have := ihr pb (k - l.text.length - s.length) w1 (hb.keep hb1.2.2.2) (by omega) (by omega)
          rw [i64_in ((k : Int) - (l.text.length : Int)) (by omega) (by omega), i64_in ((k : Int) - (l.text.length : Int) - (s.length : Int)) (by omega) (by omega)]
          rwa [show ((k - l.text.length - s.length : Nat) : Int) = (k : Int) - (l.text.length : Int) - (s.length : Int) by omega] at this
        have hj : ∀ (w1 : World) (q : Option Addr), w1.cell? ⟨nb, 0, none⟩ = some (.string (bstr s)) ∧ w1.cell? ⟨nb, 3, none⟩ = some (.pointer pa) ∧ w1.cell? ⟨nb, 4, none⟩ = some (.pointer pb) ∧ Below w.heap.size w w1 → IsTr w1.heap.size w1 q (Tr.cut r (k - l.text.length - s.length)).1 → Calls Try.prog 49 #[.pointer pa, .string (bstr s), .pointer q] w1 (TrOut w1 (Tr.between l s (Tr.cut r (k - l.text.length - s.length)).1)) := fun w1 q hb1 hq => between_any _ pa q l _ s w1 (Nat.lt_succ_self _) (ha.keep hb1.2.2.2) hq (by omega)
        unfold CutOut at hc ⊢
        generalize Tr.between l s (Tr.cut r (k - l.text.length - s.length)).1 = T3 at *
        generalize (Tr.cut r (k - l.text.length - s.length)).1 = T1 at *
        generalize (Tr.cut r (k - l.text.length - s.length)).2 = T2 at *
        generalize l.text.length = n at *
        have SZ := Lib.hid hsz; have C := Lib.hid hc; have J := Lib.hid hj
        clear hsz hc hj e1 e2 hwc ihl ihr hb ha c1 c2 hw hlw
        have d1 : decide ((k : Int) ≤ (n : Int)) = false := decide_eq_false (by omega)
        have d2 : decide ((k : Int) ≥ (n : Int) + (s.length : Int)) = true := decide_eq_true (by omega)
        go_enter Try.func47, Try.ntmps47
        go_wp2_with fail
        refine SZ.out.mono ?_
        rintro e w' ⟨rfl, rfl⟩
        go_wp2_with fail
        go_region_held3 (fun w1 => w1.cell? ⟨nb, 0, none⟩ = some (.string (bstr s)) ∧ w1.cell? ⟨nb, 3, none⟩ = some (.pointer pa) ∧ w1.cell? ⟨nb, 4, none⟩ = some (.pointer pb) ∧ Below w.heap.size w w1)
          (first
            | exact ⟨c0, c3, c4, (Below.refl _ _).drew⟩
            | exact nodeKeep hbX hnb (by assumption))
          (first
            | (go_at_call 47; ((with_reducible refine (C.out _ (by assumption)).mono ?_); rintro e w9 ⟨p9, p10, rfl, ht9, ht10, hbX⟩)))
        rename_i hHeld
        obtain ⟨c0', c3', c4', hB1⟩ := hHeld
        clear c0 c3 c4 hbX
        go_wp2_with fail
        have ht9' : IsTr w9.drew.heap.size w9.drew p9 T1 := ht9.drewN 1
        have ht10' : IsTr w9.drew.heap.size w9.drew p10 T2 := ht10.drewN 1
        go_region_held3 (fun w1 => w1.cell? ⟨nb, 0, none⟩ = some (.string (bstr s)) ∧ w1.cell? ⟨nb, 3, none⟩ = some (.pointer pa) ∧ w1.cell? ⟨nb, 4, none⟩ = some (.pointer pb) ∧ Below w.heap.size w w1)
          (first
            | exact ⟨c0', c3', c4', hB1.drew⟩
            | exact nodeKeep hbX hnb (by assumption))
          (first
            | (go_at_call 49; ((with_reducible refine (J.out _ _ (by assumption) (by assumption)).mono ?_); rintro e w8 ⟨p8, rfl, ht8, hbX⟩)))
        rename_i hHeld
        have hB := hHeld.2.2.2
        have ht19 := ht10'.keep hbX
        go_wp2_with fail
        exact bodyPost_ret (v := .tuple #[.pointer p8, .pointer p10]) (by simp [results, Try.results47, go_sem]) rfl ⟨_, _, rfl, ht8, ht19, hB⟩
      · obtain ⟨j, hj⟩ : ∃ j, k = l.text.length + j := ⟨k - l.text.length, by omega⟩
        have e1 : (Tr.cut (.node l s r) k).1 = Tr.between l (s.take j) .nil := by rw [Tr.cut, if_neg h1, if_neg h2, show k - l.text.length = j by omega]
        have e2 : (Tr.cut (.node l s r) k).2 = Tr.between .nil (s.drop j) r := by rw [Tr.cut, if_neg h1, if_neg h2, show k - l.text.length = j by omega]
        rw [e1, e2]
        have hj1 : ∀ w1 : World, w1.cell? ⟨nb, 0, none⟩ = some (.string (bstr s)) ∧ w1.cell? ⟨nb, 3, none⟩ = some (.pointer pa) ∧ w1.cell? ⟨nb, 4, none⟩ = some (.pointer pb) ∧ Below w.heap.size w w1 → Calls Try.prog 49 #[.pointer pa, .string (bstr (s.take j)), .pointer none] w1 (TrOut w1 (Tr.between l (s.take j) .nil)) := fun w1 hb1 => between_any _ pa none l .nil _ w1 (Nat.lt_succ_self _) (ha.keep hb1.2.2.2) rfl (by rw [List.length_take, Tr.wt_nil]; omega)
        have hj2 : ∀ w1 : World, w1.cell? ⟨nb, 0, none⟩ = some (.string (bstr s)) ∧ w1.cell? ⟨nb, 3, none⟩ = some (.pointer pa) ∧ w1.cell? ⟨nb, 4, none⟩ = some (.pointer pb) ∧ Below w.heap.size w w1 → Calls Try.prog 49 #[.pointer none, .string (bstr (s.drop j)), .pointer pb] w1 (TrOut w1 (Tr.between .nil (s.drop j) r)) := fun w1 hb1 => between_any _ none pb .nil r _ w1 (Nat.lt_succ_self _) rfl (hb.keep hb1.2.2.2) (by rw [List.length_drop, Tr.wt_nil]; omega)
        unfold CutOut
        generalize Tr.between l (s.take j) .nil = T1 at *
        generalize Tr.between .nil (s.drop j) r = T2 at *
        have x1 : (bstr s).extract 0 j = bstr (s.take j) := by rw [bstr_cut, Nat.sub_zero, List.drop_zero]
        have x2 : (bstr s).extract j s.length = bstr (s.drop j) := by rw [bstr_cut, List.take_of_length_le (by rw [List.length_drop]; omega)]
        generalize bstr (s.take j) = S1 at *
        generalize bstr (s.drop j) = S2 at *
        generalize l.text.length = n at *
        have SZ := Lib.hid hsz; have J1 := Lib.hid hj1; have J2 := Lib.hid hj2
        subst hj
        have y1 : IntKind.i64.wrap (((n + j : Nat) : Int) - (n : Int)) = (j : Int) := by rw [i64_in _ (by omega) (by omega)]; omega
        have y2 : (j : Int).toNat = j := by omega
        have y3 : (0 : Int) ≤ (j : Int) := by omega
        have y4 : (j : Int) ≤ (s.length : Int) := by omega
        clear hsz hj1 hj2 e1 e2 ihl ihr hb ha c1 c2 hw hlw
        have d1 : decide (((n + j : Nat) : Int) ≤ (n : Int)) = false := decide_eq_false (by omega)
        have d2 : decide (((n + j : Nat) : Int) ≥ (n : Int) + (s.length : Int)) = false := decide_eq_false (by omega)
        go_enter Try.func47, Try.ntmps47
        go_wp2_with fail
        refine SZ.out.mono ?_
        rintro e w' ⟨rfl, rfl⟩
        go_wp2_with fail
        go_quiet (fail)
        simp only [Nat.add_sub_cancel_left]
        rw [x1, x2]
        have hb5 := bdrewN (Below.refl w.heap.size w) nq
        have c0' := (hb5.cell (p := ⟨nb, 0, none⟩) hnb).trans c0
        have c3' := (hb5.cell (p := ⟨nb, 3, none⟩) hnb).trans c3
        have c4' := (hb5.cell (p := ⟨nb, 4, none⟩) hnb).trans c4
        clear c0 c3 c4 SZ
        generalize w.drewN nq = w5 at *
        go_wp2_with fail
        go_region_held3 (fun w1 => w1.cell? ⟨nb, 0, none⟩ = some (.string (bstr s)) ∧ w1.cell? ⟨nb, 3, none⟩ = some (.pointer pa) ∧ w1.cell? ⟨nb, 4, none⟩ = some (.pointer pb) ∧ Below w.heap.size w w1)
          (first
            | exact ⟨c0', c3', c4', hb5.drew⟩
            | exact nodeKeep hbX hnb (by assumption))
          (first
            | (go_at_call 49; ((with_reducible refine (J1.out _ (by assumption)).mono ?_); rintro e w9 ⟨p9, rfl, ht9, hbX⟩))
            | (go_at_call 49; ((with_reducible refine (J2.out _ (by assumption)).mono ?_); rintro e w8 ⟨p8, rfl, ht8, hbX⟩)))
        all_goals rename_i hHeld
        all_goals have hB := hHeld.2.2.2
        all_goals go_wp2_with fail
        all_goals exact bodyPost_ret (v := .tuple #[.pointer p9, .pointer p8]) (by simp [results, Try.results47, go_sem]) rfl ⟨_, _, rfl, by first | exact ht9 | exact ht9.keep hbX, by first | exact ht8 | exact ht8.keep hbX, hB⟩
end Go.Proofs.Ytenhblpegobbjaa
