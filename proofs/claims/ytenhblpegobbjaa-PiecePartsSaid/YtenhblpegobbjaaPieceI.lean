/- The fact pieced; the law PieceApart. -/
import Derived.Test.YtenhblpegobbjaaPieceH
namespace Go.Proofs.Ytenhblpegobbjaa
open Go.RowKit Go.Shelf
open Piece
set_option linter.unusedVariables false
set_option linter.unusedSimpArgs false
theorem one_wt (s : List UInt8) : Tr.wt (Tr.one s) ≤ s.length + 1 := by
  unfold Tr.one
  split
  · simp [Tr.wt_nil]
  · rw [Tr.wt_node, Tr.wt_nil]; omega
theorem full_wt {T : Tr} (h : T.full) : Tr.wt T ≤ 2 * T.text.length := by
  have := h.count_le
  unfold Tr.wt; omega
set_option maxRecDepth 100000 in
set_option maxHeartbeats 2000000 in
theorem pieced_any (w : World) : Calls Try.prog 13 #[] w fun e w' => e = .returned (.bool true) ∧ Below w.heap.size w w' := by
  have f1 : (Tr.one [97, 98, 99, 100, 101, 102]).text = [97, 98, 99, 100, 101, 102] := Tr.one_text _
  have g1 := Tr.one_full [97, 98, 99, 100, 101, 102]
  have e1 := Tr.edit_text (Tr.one [97, 98, 99, 100, 101, 102]) 2 2 [88, 89, 90] g1 (by rw [f1]; decide)
  have e2 := (Tr.edit_full (Tr.one [97, 98, 99, 100, 101, 102]) 2 2 [88, 89, 90] g1 (by rw [f1]; decide)).1
  rw [f1] at e1
  replace e1 : (Tr.edit (Tr.one [97, 98, 99, 100, 101, 102]) 2 2 [88, 89, 90]).text = [97, 98, 88, 89, 90, 101, 102] := e1
  have hw1 := full_wt g1
  have hw2 := full_wt e2
  have hof := Of_one [97, 98, 99, 100, 101, 102] w (by decide)
  have hed := fun w1 q (h : IsTr w1.heap.size w1 q (Tr.one [97, 98, 99, 100, 101, 102])) => Edit_any q (Tr.one [97, 98, 99, 100, 101, 102]) 2 2 [88, 89, 90] w1 h g1 (by rw [f1] at hw1; simp at hw1; omega) (by rw [f1]; decide) (by rw [f1]; decide)
  rw [f1] at hw1
  rw [e1] at hw2
  have hst := fun w1 q (h : IsTr w1.heap.size w1 q (Tr.edit (Tr.one [97, 98, 99, 100, 101, 102]) 2 2 [88, 89, 90])) => String_any q _ w1 h e2 (by simp at hw2; omega)
  have hln := fun w1 q (h : IsTr w1.heap.size w1 q (Tr.edit (Tr.one [97, 98, 99, 100, 101, 102]) 2 2 [88, 89, 90])) => Len_any q _ _ w1 h (Nat.le_refl _)
  rw [e1] at hst hln
  unfold TextOut at hof
  generalize Tr.edit (Tr.one [97, 98, 99, 100, 101, 102]) 2 2 [88, 89, 90] = T2 at *
  generalize Tr.one [97, 98, 99, 100, 101, 102] = T1 at *
  have OF := Lib.hid hof; have ED := Lib.hid hed; have ST := Lib.hid hst; have LN := Lib.hid hln
  clear hof hed hst hln f1 g1 e1 e2 hw1 hw2
  go_enter Try.func13, Try.ntmps13
  go_wp2_with fail
  refine OF.out.mono ?_
  rintro e w1 ⟨q1, rfl, h1, hb1⟩
  go_wp2_with fail
  refine (ED.out w1 q1 h1).mono ?_
  rintro e w2 ⟨q2, rfl, h2, hb2⟩
  have hb12 := hb1.trans (hb2.mono hb1.size)
  have bx := Boxed.new w2 26 (.pointer q2)
  have hb3 := (Below.refl w2.heap.size w2).alloc (Nat.le_refl _) (.cells #[.pointer q2] 26)
  have h3 := h2.keep hb3
  have hb13 := hb12.trans (hb3.mono hb12.size)
  have hc3 := bx.cell
  have hl3 := bx.lt
  clear h1 h2 hb1 hb2 hb3
  go_wp2_with fail
  refine (ST.out _ q2 h3).mono ?_
  rintro e w4 ⟨rfl, hb4⟩
  have hc4 := (hb4.cell (p := ⟨w2.heap.size, 0, none⟩) hl3).trans hc3
  have h4 := h3.keep hb4
  have hb14 := hb13.trans (hb4.mono hb13.size)
  clear hb4 h3 hb13
  go_wp2_with fail
  refine (LN.out _ q2 h4).mono ?_
  rintro e w5 ⟨rfl, hb5⟩
  have hb15 := hb14.trans (hb5.mono hb14.size)
  go_wp2_with fail
  go_ret
  exact ⟨rfl, hb15⟩
theorem Edit_int (p : Option Addr) (T : Tr) (ai oi : Int) (a o : Nat) (ha : ai = (a : Int)) (ho : oi = (o : Int)) (s : List UInt8) (w : World) (h : IsTr w.heap.size w p T) (hf : T.full) (hw : T.text.length ≤ 2600) (hao : a + o ≤ T.text.length) (hl : s.length + (T.text.length - o) ≤ 4000) :
    Calls Try.prog 16 #[.agg #[.pointer p], .int .i64 ai, .int .i64 oi, .string (bstr s)] w fun e w' => ∃ q, e = .returned (.tuple #[.agg #[.pointer q], .nilIface]) ∧ IsTr w'.heap.size w' q (Tr.edit T a o s) ∧ Below w.heap.size w w' := by
  subst ha ho
  have := full_wt hf
  exact Edit_any p T a o s w h hf (by omega) hao hl
/-- a text in a box -/
structure TxAt (w : World) (g : Nat) (T : Tr) (q : Option Addr) : Prop where
  box : Boxed w g 26 (.pointer q)
  tr : IsTr w.heap.size w q T
theorem TxAt.new {w : World} {q : Option Addr} {T : Tr} (h : IsTr w.heap.size w q T) : TxAt (w.alloc (.cells #[.pointer q] 26)) w.heap.size T q :=
  ⟨Boxed.new _ _ _, h.keep ((Below.refl w.heap.size w).alloc (Nat.le_refl _) _)⟩
theorem TxAt.lt {w : World} {g : Nat} {T : Tr} {q : Option Addr} (h : TxAt w g T q) : g < w.heap.size := Boxed.lt h.box
theorem TxAt.below {w w' : World} {g : Nat} {T : Tr} {q : Option Addr} (h : TxAt w g T q) (hb : Below w.heap.size w w') : TxAt w' g T q := ⟨box_below h.box hb h.lt, h.tr.keep hb⟩
theorem TxAt.cell {w : World} {g : Nat} {T : Tr} {q : Option Addr} (h : TxAt w g T q) : w.cell? ⟨g, 0, none⟩ = some (.pointer q) := Boxed.cell h.box
theorem belowAlloc {a w : World} {B : Nat} (h : Below B a w) (o : Obj) (hB : B ≤ w.heap.size) : Below B a (w.alloc o) := h.trans ((Below.refl B w).alloc hB o)
set_option maxRecDepth 100000 in
set_option maxHeartbeats 4000000 in
theorem PieceApart_in (s x y : List UInt8) (a n b m : Int) (w : World) (hs : s.length ≤ 200) (hx : x.length ≤ 60) (hy : y.length ≤ 60) :
    Calls Try.prog 3 #[.string (bstr s), .int .i64 a, .int .i64 n, .int .i64 b, .int .i64 m, .string (bstr x), .string (bstr y)] w fun e w' => e = .returned (.bool true) ∧ Below w.heap.size w w' := by
  have q1 : decide ((200 : Int) < (s.length : Int)) = false := decide_eq_false (by omega)
  have q2 : decide ((60 : Int) < (x.length : Int)) = false := decide_eq_false (by omega)
  have q3 : decide ((60 : Int) < (y.length : Int)) = false := decide_eq_false (by omega)
  go_enter Try.func3, Try.ntmps3
  go_wp2_with fail
  refine (pieced_any _).mono ?_
  rintro e w1 ⟨rfl, hb1⟩
  go_wp2_with fail
  clear q1 q2 q3
  refine (pick_at a ((s.length : Int) + 1) (s.length + 1) w1 (by omega) (by omega) (by omega)).mono ?_
  rintro e w2 ⟨rfl, rfl⟩
  obtain ⟨A, hA⟩ : ∃ A, A = pickN a (s.length + 1) := ⟨_, rfl⟩
  have hA1 : A ≤ s.length := by have := pickN_lt a (s.length + 1) (by omega); omega
  rw [← hA]; clear hA
  go_wp2_with fail
  refine (pick_at n ((s.length : Int) - (A : Int) + 1) (s.length - A + 1) w1 (by omega) (by omega) (by omega)).mono ?_
  rintro e w2 ⟨rfl, rfl⟩
  obtain ⟨N, hN⟩ : ∃ N, N = pickN n (s.length - A + 1) := ⟨_, rfl⟩
  have hN1 : A + N ≤ s.length := by have := pickN_lt n (s.length - A + 1) (by omega); omega
  rw [← hN]; clear hN
  go_wp2_with fail
  refine (pick_at b ((s.length : Int) - (A : Int) - (N : Int) + 1) (s.length - A - N + 1) w1 (by omega) (by omega) (by omega)).mono ?_
  rintro e w2 ⟨rfl, rfl⟩
  obtain ⟨K, hK⟩ : ∃ K, K = pickN b (s.length - A - N + 1) := ⟨_, rfl⟩
  have hK1 : A + N + K ≤ s.length := by have := pickN_lt b (s.length - A - N + 1) (by omega); omega
  rw [← hK]; clear hK
  go_wp2_with fail
  refine (pick_at m ((s.length : Int) - ((A : Int) + (N : Int) + (K : Int)) + 1) (s.length - (A + N + K) + 1) w1 (by omega) (by omega) (by omega)).mono ?_
  rintro e w2 ⟨rfl, rfl⟩
  obtain ⟨M, hM⟩ : ∃ M, M = pickN m (s.length - (A + N + K) + 1) := ⟨_, rfl⟩
  have hM1 : A + N + K + M ≤ s.length := by have := pickN_lt m (s.length - (A + N + K) + 1) (by omega); omega
  rw [← hM]; clear hM
  have t0 := Tr.one_text s
  have f0 := Tr.one_full s
  have u1 := Tr.edit_text (Tr.one s) (A + N + K) M y f0 (by rw [t0]; omega)
  have f1 := (Tr.edit_full (Tr.one s) (A + N + K) M y f0 (by rw [t0]; omega)).1
  have u2 := Tr.edit_text (Tr.one s) A N x f0 (by rw [t0]; omega)
  have f2 := (Tr.edit_full (Tr.one s) A N x f0 (by rw [t0]; omega)).1
  rw [t0] at u1 u2
  have n1 : (Tr.edit (Tr.one s) (A + N + K) M y).text.length = s.length - M + y.length := by
    rw [u1]; simp only [List.length_append, List.length_take, List.length_drop]; omega
  have n2 : (Tr.edit (Tr.one s) A N x).text.length = s.length - N + x.length := by
    rw [u2]; simp only [List.length_append, List.length_take, List.length_drop]; omega
  have u3 := Tr.edit_text (Tr.edit (Tr.one s) (A + N + K) M y) A N x f1 (by rw [n1]; omega)
  have f3 := (Tr.edit_full (Tr.edit (Tr.one s) (A + N + K) M y) A N x f1 (by rw [n1]; omega)).1
  have u4 := Tr.edit_text (Tr.edit (Tr.one s) A N x) (A + N + K - N + x.length) M y f2 (by rw [n2]; omega)
  have f4 := (Tr.edit_full (Tr.edit (Tr.one s) A N x) (A + N + K - N + x.length) M y f2 (by rw [n2]; omega)).1
  obtain ⟨g1, g2⟩ := apart s x y A N (A + N + K) M (by omega) (by omega)
  rw [u1, g1] at u3
  rw [u2, g2] at u4
  have hl3 : (Tr.edit (Tr.edit (Tr.one s) (A + N + K) M y) A N x).text.length ≤ 400 := by
    rw [u3]; simp only [List.length_append, List.length_take, List.length_drop]; omega
  have hl4 : (Tr.edit (Tr.edit (Tr.one s) A N x) (A + N + K - N + x.length) M y).text.length ≤ 400 := by
    rw [u4]; simp only [List.length_append, List.length_take, List.length_drop]; omega
  have wt0 := full_wt f0
  have wt3 := full_wt f3
  have wt4 := full_wt f4
  rw [t0] at wt0
  have hof := Of_one s w1 (by omega)
  have he1 := fun w1 q h => Edit_int q (Tr.one s) ((A : Int) + (N : Int) + (K : Int)) (M : Int) (A + N + K) M (by omega) rfl y w1 h f0 (by rw [t0]; omega) (by rw [t0]; omega) (by rw [t0]; omega)
  have he2 := fun w1 q h => Edit_int q (Tr.one s) (A : Int) (N : Int) A N rfl rfl x w1 h f0 (by rw [t0]; omega) (by rw [t0]; omega) (by rw [t0]; omega)
  have he3 := fun w1 q h => Edit_int q (Tr.edit (Tr.one s) (A + N + K) M y) (A : Int) (N : Int) A N rfl rfl x w1 h f1 (by rw [n1]; omega) (by rw [n1]; omega) (by rw [n1]; omega)
  have he4 := fun w1 q h => Edit_int q (Tr.edit (Tr.one s) A N x) ((A : Int) + (N : Int) + (K : Int) - (N : Int) + (x.length : Int)) (M : Int) (A + N + K - N + x.length) M (by omega) rfl y w1 h f2 (by rw [n2]; omega) (by rw [n2]; omega) (by rw [n2]; omega)
  have hs0 := fun w1 q h => String_any q (Tr.one s) w1 h f0 (by omega)
  have hs3 := fun w1 q h => String_any q (Tr.edit (Tr.edit (Tr.one s) (A + N + K) M y) A N x) w1 h f3 (by omega)
  have hs4 := fun w1 q h => String_any q (Tr.edit (Tr.edit (Tr.one s) A N x) (A + N + K - N + x.length) M y) w1 h f4 (by omega)
  rw [t0] at hs0
  rw [u3] at hs3
  rw [u4] at hs4
  unfold TextOut at hof
  clear u1 u2 u3 u4 f0 f1 f2 f3 f4 n1 n2 g1 g2 hl3 hl4 wt0 wt3 wt4 t0
  generalize Tr.edit (Tr.edit (Tr.one s) (A + N + K) M y) A N x = U at *
  generalize Tr.edit (Tr.edit (Tr.one s) A N x) (A + N + K - N + x.length) M y = V at *
  generalize Tr.edit (Tr.one s) (A + N + K) M y = T1 at *
  generalize Tr.edit (Tr.one s) A N x = T2 at *
  generalize Tr.one s = T0 at *
  have hx1 : (bstr s).extract 0 A = bstr (s.take A) := by rw [bstr_cut, Nat.sub_zero, List.drop_zero]
  have hx2 : (bstr s).extract (A + N) (A + N + K) = bstr ((s.take (A + N + K)).drop (A + N)) := by rw [bstr_cut, List.drop_take]
  have hx3 : (bstr s).extract (A + N + K + M) s.length = bstr (s.drop (A + N + K + M)) := by rw [bstr_cut, List.take_of_length_le (by rw [List.length_drop]; omega)]
  have n1 : (s.take A).length ≤ 200 := by rw [List.length_take]; omega
  have n2 : ((s.take (A + N + K)).drop (A + N)).length ≤ 200 := by rw [List.length_drop, List.length_take]; omega
  have n3 : (s.drop (A + N + K + M)).length ≤ 200 := by rw [List.length_drop]; omega
  generalize s.take A = P1 at *
  generalize (s.take (A + N + K)).drop (A + N) = P2 at *
  generalize s.drop (A + N + K + M) = P3 at *
  have HX := Lib.hid (And.intro hx1 (And.intro hx2 hx3))
  clear hx1 hx2 hx3
  have OF := Lib.hid hof; have E1 := Lib.hid he1; have E2 := Lib.hid he2; have E3 := Lib.hid he3; have E4 := Lib.hid he4
  have S0 := Lib.hid hs0; have S3 := Lib.hid hs3; have S4 := Lib.hid hs4
  clear hof he1 he2 he3 he4 hs0 hs3 hs4
  go_wp2_with fail
  refine OF.out.mono ?_
  rintro e w2 ⟨r0, rfl, h0, hb2⟩
  have X0 := TxAt.new h0
  have hb := hb1.trans ((belowAlloc hb2 (.cells #[.pointer r0] 26) hb2.size).mono hb1.size)
  have c0 := X0.cell
  clear h0 hb1 hb2 OF
  go_wp2_with fail
  generalize w2.alloc (.cells #[.pointer r0] 26) = w3 at *
  generalize w2.heap.size = b15 at *
  refine (E1.out w3 r0 X0.tr).mono ?_
  rintro e w4 ⟨r1, rfl, h1, hb4⟩
  have X1 := TxAt.new h1
  have hb5 := belowAlloc hb4 (.cells #[.pointer r1] 26) hb4.size
  replace hb := hb.trans (hb5.mono hb.size)
  replace X0 := X0.below hb5
  replace c0 := X0.cell
  have c1 := X1.cell
  clear h1 hb4 hb5 E1
  go_wp2_with fail
  generalize w4.alloc (.cells #[.pointer r1] 26) = w5 at *
  generalize w4.heap.size = b16 at *
  refine (E2.out w5 r0 X0.tr).mono ?_
  rintro e w6 ⟨r2, rfl, h2, hb6⟩
  have X2 := TxAt.new h2
  have hb7 := belowAlloc hb6 (.cells #[.pointer r2] 26) hb6.size
  replace hb := hb.trans (hb7.mono hb.size)
  replace X0 := X0.below hb7
  replace X1 := X1.below hb7
  replace c0 := X0.cell
  replace c1 := X1.cell
  have c2 := X2.cell
  clear h2 hb6 hb7 E2
  go_wp2_with fail
  generalize w6.alloc (.cells #[.pointer r2] 26) = w7 at *
  generalize w6.heap.size = b18 at *
  refine (E3.out w7 r1 X1.tr).mono ?_
  rintro e w8 ⟨r3, rfl, h3, hb8⟩
  have X3 := TxAt.new h3
  have hb9 := belowAlloc hb8 (.cells #[.pointer r3] 26) hb8.size
  replace hb := hb.trans (hb9.mono hb.size)
  replace X0 := X0.below hb9
  replace X2 := X2.below hb9
  replace c0 := X0.cell
  replace c2 := X2.cell
  have c3 := X3.cell
  clear h3 hb8 hb9 E3 X1 c1
  go_wp2_with fail
  generalize w8.alloc (.cells #[.pointer r3] 26) = w9 at *
  generalize w8.heap.size = b20 at *
  refine (E4.out w9 r2 X2.tr).mono ?_
  rintro e w10 ⟨r4, rfl, h4, hb10⟩
  have X4 := TxAt.new h4
  have hb11 := belowAlloc hb10 (.cells #[.pointer r4] 26) hb10.size
  replace hb := hb.trans (hb11.mono hb.size)
  replace X0 := X0.below hb11
  replace X3 := X3.below hb11
  replace c0 := X0.cell
  replace c3 := X3.cell
  have c4 := X4.cell
  clear h4 hb10 hb11 E4 X2 c2
  go_wp2_with fail
  generalize w10.alloc (.cells #[.pointer r4] 26) = w11 at *
  generalize w10.heap.size = b22 at *
  have st0 : ∀ w1, w1.cell? ⟨b15, 0, none⟩ = some (.pointer r0) ∧ w1.cell? ⟨b20, 0, none⟩ = some (.pointer r3) ∧ w1.cell? ⟨b22, 0, none⟩ = some (.pointer r4) ∧ Below w11.heap.size w11 w1 → Calls Try.prog 17 #[.agg #[.pointer r0]] w1 fun e w' => e = .returned (.string (bstr s)) ∧ Below w1.heap.size w1 w' := fun w1 h => S0.out w1 r0 (X0.tr.keep h.2.2.2)
  have st3 := fun (w1 : World) (h : w1.cell? ⟨b15, 0, none⟩ = some (.pointer r0) ∧ w1.cell? ⟨b20, 0, none⟩ = some (.pointer r3) ∧ w1.cell? ⟨b22, 0, none⟩ = some (.pointer r4) ∧ Below w11.heap.size w11 w1) => S3.out w1 r3 (X3.tr.keep h.2.2.2)
  have st4 := fun (w1 : World) (h : w1.cell? ⟨b15, 0, none⟩ = some (.pointer r0) ∧ w1.cell? ⟨b20, 0, none⟩ = some (.pointer r3) ∧ w1.cell? ⟨b22, 0, none⟩ = some (.pointer r4) ∧ Below w11.heap.size w11 w1) => S4.out w1 r4 (X4.tr.keep h.2.2.2)
  have m0 := X0.lt
  have m3 := X3.lt
  have m4 := X4.lt
  have hkeep : ∀ {w1 w2 : World}, Below w1.heap.size w1 w2 → w1.cell? ⟨b15, 0, none⟩ = some (.pointer r0) ∧ w1.cell? ⟨b20, 0, none⟩ = some (.pointer r3) ∧ w1.cell? ⟨b22, 0, none⟩ = some (.pointer r4) ∧ Below w11.heap.size w11 w1 → w2.cell? ⟨b15, 0, none⟩ = some (.pointer r0) ∧ w2.cell? ⟨b20, 0, none⟩ = some (.pointer r3) ∧ w2.cell? ⟨b22, 0, none⟩ = some (.pointer r4) ∧ Below w11.heap.size w11 w2 := fun hb h => by
    have hs := h.2.2.2.size
    exact ⟨(hb.cell (p := ⟨b15, 0, none⟩) (Nat.lt_of_lt_of_le m0 hs)).trans h.1, (hb.cell (p := ⟨b20, 0, none⟩) (Nat.lt_of_lt_of_le m3 hs)).trans h.2.1, (hb.cell (p := ⟨b22, 0, none⟩) (Nat.lt_of_lt_of_le m4 hs)).trans h.2.2.1, h.2.2.2.trans (hb.mono hs)⟩
  have k1 : (A : Int).toNat = A := by omega
  have k2 : ((A : Int) + (N : Int)).toNat = A + N := by omega
  have k3 : ((A : Int) + (N : Int) + (K : Int)).toNat = A + N + K := by omega
  have k4 : ((A : Int) + (N : Int) + (K : Int) + (M : Int)).toNat = A + N + K + M := by omega
  have l1 : (0 : Int) ≤ (A : Int) := by omega
  have l2 : (A : Int) ≤ (s.length : Int) := by omega
  have l3 : (0 : Int) ≤ (A : Int) + (N : Int) := by omega
  have l4 : (A : Int) + (N : Int) ≤ (A : Int) + (N : Int) + (K : Int) := by omega
  have l5 : (A : Int) + (N : Int) + (K : Int) ≤ (s.length : Int) := by omega
  have l6 : (0 : Int) ≤ (A : Int) + (N : Int) + (K : Int) + (M : Int) := by omega
  have l7 : (A : Int) + (N : Int) + (K : Int) + (M : Int) ≤ (s.length : Int) := by omega
  have v1 : IntKind.i64.wrap ((A : Int) + (N : Int)) = (A : Int) + (N : Int) := i64_in _ (by omega) (by omega)
  have v2 : IntKind.i64.wrap ((A : Int) + (N : Int) + (K : Int) + (M : Int)) = (A : Int) + (N : Int) + (K : Int) + (M : Int) := i64_in _ (by omega) (by omega)
  obtain ⟨hx1, hx2, hx3⟩ := HX.out
  have y1 : ¬ 9223372036854775807 < P1.length + x.length := by omega
  have y2 : ¬ 9223372036854775807 < P1.length + x.length + P2.length := by omega
  have y3 : ¬ 9223372036854775807 < P1.length + (x.length + P2.length) + y.length := by omega
  have y4 : ¬ 9223372036854775807 < P1.length + (x.length + (P2.length + y.length)) + P3.length := by omega
  have ST0 := Lib.hid st0; have ST3 := Lib.hid st3; have ST4 := Lib.hid st4
  have HK := @hkeep
  clear n1 n2 n3 HX st0 st3 st4 hkeep X0 X3 X4 S0 S3 S4 m0 m3 m4 hs hx hy hA1 hN1 hK1 hM1
  go_region_held3 (fun w1 => w1.cell? ⟨b15, 0, none⟩ = some (.pointer r0) ∧ w1.cell? ⟨b20, 0, none⟩ = some (.pointer r3) ∧ w1.cell? ⟨b22, 0, none⟩ = some (.pointer r4) ∧ Below w11.heap.size w11 w1)
    (first
      | exact ⟨c0, c3, c4, (Below.refl _ _).drew⟩
      | exact HK hbX (by assumption))
    (first
      | (go_at_call 17; ((with_reducible refine (ST3.out _ (by assumption)).mono ?_); rintro e w19 ⟨rfl, hbX⟩))
      | (go_at_call 17; ((with_reducible refine (ST4.out _ (by assumption)).mono ?_); rintro e w19 ⟨rfl, hbX⟩))
      | (go_at_call 17; ((with_reducible refine (ST0.out _ (by assumption)).mono ?_); rintro e w19 ⟨rfl, hbX⟩)))
  rename_i hHeld
  have hB := hHeld.2.2.2
  go_wp2_with fail
  go_ret
  exact ⟨rfl, hb.trans (hB.mono hb.size)⟩
set_option maxRecDepth 100000 in
set_option maxHeartbeats 1000000 in
theorem PieceApart_big (s x y : List UInt8) (a n b m : Int) (w : World) (h : ¬ (s.length ≤ 200 ∧ x.length ≤ 60 ∧ y.length ≤ 60)) :
    Calls Try.prog 3 #[.string (bstr s), .int .i64 a, .int .i64 n, .int .i64 b, .int .i64 m, .string (bstr x), .string (bstr y)] w fun e w' => e = .returned (.bool true) ∧ Below w.heap.size w w' := by
  by_cases hs : s.length ≤ 200
  · have q1 : decide ((200 : Int) < (s.length : Int)) = false := decide_eq_false (by omega)
    by_cases hx : x.length ≤ 60
    · have q2 : decide ((60 : Int) < (x.length : Int)) = false := decide_eq_false (by omega)
      have q3 : decide ((60 : Int) < (y.length : Int)) = true := decide_eq_true (by omega)
      go_enter Try.func3, Try.ntmps3
      go_wp2_with fail
      refine (pieced_any _).mono ?_
      rintro e w1 ⟨rfl, hb1⟩
      go_wp2_with fail
      go_ret
      exact ⟨rfl, hb1⟩
    · have q2 : decide ((60 : Int) < (x.length : Int)) = true := decide_eq_true (by omega)
      go_enter Try.func3, Try.ntmps3
      go_wp2_with fail
      refine (pieced_any _).mono ?_
      rintro e w1 ⟨rfl, hb1⟩
      go_wp2_with fail
      go_ret
      exact ⟨rfl, hb1⟩
  · have q1 : decide ((200 : Int) < (s.length : Int)) = true := decide_eq_true (by omega)
    go_enter Try.func3, Try.ntmps3
    go_wp2_with fail
    refine (pieced_any _).mono ?_
    rintro e w1 ⟨rfl, hb1⟩
    go_wp2_with fail
    go_ret
    exact ⟨rfl, hb1⟩
theorem PieceApart_walk (s : ByteArray) (a n b m : Int) (x y : ByteArray) (hs : s.size ≤ 140737488351232) (ha : -9223372036854775808 ≤ a) (ha' : a ≤ 9223372036854775807) (hn : -9223372036854775808 ≤ n) (hn' : n ≤ 9223372036854775807) (hb : -9223372036854775808 ≤ b) (hb' : b ≤ 9223372036854775807) (hm : -9223372036854775808 ≤ m) (hm' : m ≤ 9223372036854775807) (hx : x.size ≤ 140737488351232) (hy : y.size ≤ 140737488351232) (w : World) :
    Calls Try.prog 3 #[.string s, .int .i64 a, .int .i64 n, .int .i64 b, .int .i64 m, .string x, .string y] w fun e w' => e = .returned (.bool true) ∧ Below w.heap.size w w' := by
  rw [eq_bstr s, eq_bstr x, eq_bstr y]
  by_cases h : s.data.toList.length ≤ 200 ∧ x.data.toList.length ≤ 60 ∧ y.data.toList.length ≤ 60
  · exact PieceApart_in _ _ _ a n b m w h.1 h.2.1 h.2.2
  · exact PieceApart_big _ _ _ a n b m w h
end Go.Proofs.Ytenhblpegobbjaa
