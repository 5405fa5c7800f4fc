/- Contracts for spans: Size, Moved; the fact spanned. -/
import Derived.Test.YtnldobfafaajjaaSlEqualSp
namespace Go.Proofs.Ytnldobfafaajjaa
open Go.RowKit
set_option linter.unusedVariables false
set_option linter.unusedSimpArgs false
namespace Spans
def size (l : List Sp) : Int := (l.map fun x => x.2 - x.1).sum
theorem size_take (l : List Sp) (k : Nat) (h : k < l.length) : size (l.take (k + 1)) = size (l.take k) + ((l.getD k (0, 0)).2 - (l.getD k (0, 0)).1) := by
  have e : l.getD k (0, 0) = l[k] := by rw [List.getD_eq_getElem?_getD, List.getElem?_eq_getElem h]; rfl
  rw [e, List.take_succ_eq_append_getElem h]
  simp only [size, List.map_append, List.sum_append, List.map_cons, List.map_nil, List.sum_cons, List.sum_nil, Int.add_zero]
theorem rowed_at : ∀ {l : List Sp} {a : Int} (k : Nat), rowed a l → k < l.length → a < (l.getD k (0, 0)).1 ∧ (l.getD k (0, 0)).1 < (l.getD k (0, 0)).2 ∧ 0 ≤ size (l.take k) ∧ size (l.take k) ≤ (l.getD k (0, 0)).1 - a - 1
  | [], _, _, _, h => by simp at h
  | x :: t, a, 0, hr, _ => by
    obtain ⟨h1, h2, h3⟩ := hr
    refine ⟨h1, h2, ?_, ?_⟩
    · simp [size]
    · simp only [size, List.take_zero, List.map_nil, List.sum_nil, List.getD_cons_zero]; omega
  | x :: t, a, k + 1, hr, h => by
    obtain ⟨h1, h2, h3⟩ := hr
    have ih := rowed_at k h3 (by simp at h; omega)
    rw [List.getD_cons_succ]
    have e : size ((x :: t).take (k + 1)) = (x.2 - x.1) + size (t.take k) := by simp [size]
    rw [e]
    omega
theorem Norm.bound {l m : List Sp} {M : Int} (h : Norm l m) (hM : ∀ y ∈ l, y.2 ≤ M) : ∀ x ∈ m, 0 ≤ x.1 ∧ x.1 < x.2 ∧ x.2 ≤ M := by
  intro x hx
  have key : ∀ {m : List Sp} {a : Int}, rowed a m → ∀ x ∈ m, a < x.1 ∧ x.1 < x.2 := by
    intro m
    induction m with
    | nil => intro a _ x hx; cases hx
    | cons y t ih =>
      intro a hr x hx
      obtain ⟨h1, h2, h3⟩ := hr
      rcases List.mem_cons.1 hx with rfl | hx
      · exact ⟨h1, h2⟩
      · have := ih h3 x hx; omega
  have hk := key h.1 x hx
  have hh : has m (x.2 - 1) = true := by rw [has_iff]; exact ⟨x, hx, by omega, by omega⟩
  rw [h.2 _ (by omega), has_iff] at hh
  obtain ⟨y, hy, h1, h2⟩ := hh
  have := hM y hy
  omega
end Spans
set_option maxRecDepth 100000 in
set_option maxHeartbeats 1000000 in
theorem Size_any (x : Option Addr) (n cap : Nat) (l : List Spans.Sp) (w : World) (hl : ReadsSp w w.heap.size x n cap l) (hn : n ≤ 100000) (hM : ∀ y ∈ l, y.2 ≤ 9223372036854775807) :
    Calls Try.prog 23 #[.slice x n cap] w fun e w' => ∃ ml, Spans.Norm l ml ∧ e = .returned (.int .i64 (Spans.size ml)) ∧ Below w.heap.size w w' := by
  have hof := Of_any x n cap l w hl hn
  have HOF := Lib.hid hof; clear hof hl
  have HMX := Lib.hid hM; clear hM
  go_enter Try.func23, Try.ntmps23
  go_wp2_with fail
  refine HOF.out.mono ?_
  clear HOF
  rintro e w1 ⟨a, m, c, ml, rfl, hml, hmn, hnorm, hown, hb1⟩
  have hrd := hown.reads hml
  have HNM := Lib.hid hnorm; clear hnorm
  have HBD := Lib.hid (Spans.Norm.bound HNM.out HMX.out)
  obtain ⟨B1, hB1⟩ : ∃ B1, B1 = w1.heap.size := ⟨_, rfl⟩
  rw [← hB1] at hrd
  have HRD := Lib.hid hrd; clear hrd hown
  have HB1 := Lib.hid hB1; clear hB1
  have hwB : w.heap.size ≤ B1 := by rw [HB1.out]; exact hb1.size
  have HML := Lib.hid hml; clear hml
  go_wp2_with fail
  go_loopw [3, 9] (fun v3 v9 wr => ∃ (k : Nat) (s : Int), k ≤ m ∧ v9 = .int .i64 k ∧ v3 = .int .i64 s ∧ Hid (s = Spans.size (ml.take k)) ∧ Below B1 w1 wr) (fun _ v9 _ => m - (intOf v9).toNat)
  case atStart => exact ⟨0, 0, by omega, rfl, rfl, Lib.hid (by simp [Spans.size]), Below.refl _ _⟩
  case round =>
    obtain ⟨k, s, hk, rfl, rfl, HS, hbe⟩ := hrel
    have hbB : B1 ≤ wr.heap.size := by have := hbe.size; have := HB1.out; omega
    by_cases hkm : k < m
    · obtain ⟨g, off, rfl, hg, hc0, hc1⟩ := (HRD.out.below hbe).2.2 k hkm
      have hlt : k < ml.length := by rw [HML.out]; exact hkm
      have hat := Spans.rowed_at k HNM.out.1 hlt
      have hst := Spans.size_take ml k hlt
      have hbd := HBD.out (ml.getD k (0, 0)) (by rw [List.getD_eq_getElem?_getD, List.getElem?_eq_getElem hlt]; exact List.getElem_mem _)
      rw [← HS.out] at hst hat
      generalize ml.getD k (0, 0) = y at *
      obtain ⟨f, t⟩ := y
      simp only [] at hc0 hc1 hat hst hbd
      have hkI : (k : Int) < (m : Int) := by omega
      have w1_ : wrap64 (t - f) = t - f := IntWalk.wrap64_in _ ⟨by omega, by omega⟩
      have w2_ : wrap64 (s + (t - f)) = s + (t - f) := IntWalk.wrap64_in _ ⟨by omega, by omega⟩
      have w3_ : IntKind.i64.wrap (t - f) = t - f := IntWalk.i64_in _ ⟨by omega, by omega⟩
      have w4_ : IntKind.i64.wrap (s + (t - f)) = s + (t - f) := IntWalk.i64_in _ ⟨by omega, by omega⟩
      have HST := Lib.hid hst.symm; clear hst hat hbd
      have hb2 := hbe.alloc hbB (.cells #[.int .i64 f, .int .i64 t] 37)
      go_wp2_with fail
      go_roundw
      case rel => exact ⟨k + 1, s + (t - f), by omega, by go_num, rfl, HST, hb2⟩
      case measure => simp [intOf]; omega
    · obtain rfl : k = m := by omega
      have hd : decide ((k : Int) < (k : Int)) = false := by simp
      have hs := HS.out
      rw [List.take_of_length_le (by rw [HML.out]; exact Nat.le_refl _)] at hs
      have HS2 := Lib.hid hs; clear hs
      go_wp2_with fail
      go_ret
      exact ⟨ml, HNM.out, by rw [← HS2.out]; rfl, hb1.trans (hbe.mono hwB)⟩
theorem ReadsSp.up {w : World} {B B' : Nat} {a : Option Addr} {n cap : Nat} {l : List Spans.Sp} (h : ReadsSp w B a n cap l) (hB : B ≤ B') : ReadsSp w B' a n cap l := by
  obtain ⟨h1, h2, h4⟩ := h
  refine ⟨h1, h2, fun k hk => ?_⟩
  obtain ⟨g, off, ha, hg, hc, hd⟩ := h4 k hk
  exact ⟨g, off, ha, Nat.lt_of_lt_of_le hg hB, hc, hd⟩
/-- where a place is behind an edit -/
def Spans.moved (p a o i : Nat) : Nat := if p < a then p else if a + o ≤ p then p - o + i else a + min (p - a) i
set_option maxRecDepth 100000 in
theorem Moved_any (p a o i : Nat) (w : World) (hp : p ≤ 1000000) (ha : a ≤ 1000000) (ho : o ≤ 1000000) (hi : i ≤ 1000000) :
    Calls Try.prog 13 #[.int .i64 (p : Nat), .int .i64 (a : Nat), .int .i64 (o : Nat), .int .i64 (i : Nat)] w fun e w' => e = .returned (.int .i64 (Spans.moved p a o i : Nat)) ∧ w = w' := by
  have hs1 : IntKind.i64.wrap ((a : Int) + (o : Int)) = (a : Int) + o := IntWalk.i64_in _ ⟨by omega, by omega⟩
  unfold Spans.moved
  go_enter Try.func13, Try.ntmps13
  by_cases h1 : p < a
  · have d1 : decide ((p : Int) < (a : Int)) = true := by rw [decide_eq_true_eq]; omega
    rw [if_pos h1]
    go_wp2_with fail
    go_ret
    exact ⟨rfl, rfl⟩
  · have d1 : decide ((p : Int) < (a : Int)) = false := by rw [decide_eq_false_iff_not]; omega
    have d1n : decide (p < a) = false := by rw [decide_eq_false_iff_not]; omega
    rw [if_neg h1]
    by_cases h2 : a + o ≤ p
    · have d2 : decide ((a : Int) + (o : Int) ≤ (p : Int)) = true := by rw [decide_eq_true_eq]; omega
      have d2n : decide (a + o ≤ p) = true := by rw [decide_eq_true_eq]; omega
      have hs2 : IntKind.i64.wrap ((p : Int) - (o : Int)) = (p : Int) - o := IntWalk.i64_in _ ⟨by omega, by omega⟩
      have hs3 : IntKind.i64.wrap ((p : Int) - (o : Int) + (i : Int)) = (p : Int) - o + i := IntWalk.i64_in _ ⟨by omega, by omega⟩
      have hs4 : wrap64 ((p : Int) - (o : Int)) = (p : Int) - o := IntWalk.wrap64_in _ ⟨by omega, by omega⟩
      have hs5 : wrap64 ((p : Int) - (o : Int) + (i : Int)) = (p : Int) - o + i := IntWalk.wrap64_in _ ⟨by omega, by omega⟩
      have hr : ((p - o + i : Nat) : Int) = (p : Int) - o + i := by omega
      have HR := Lib.hid hr; clear hr
      rw [if_pos h2]
      go_wp2_with fail
      go_ret
      exact ⟨by rw [HR.out]; rfl, rfl⟩
    · have d2 : decide ((a : Int) + (o : Int) ≤ (p : Int)) = false := by rw [decide_eq_false_iff_not]; omega
      have d2n : decide (a + o ≤ p) = false := by rw [decide_eq_false_iff_not]; omega
      have hs4 : wrap64 ((p : Int) - (a : Int)) = (p : Int) - a := IntWalk.wrap64_in _ ⟨by omega, by omega⟩
      have hs5 : wrap64 ((a : Int) + min ((p : Int) - a) (i : Int)) = (a : Int) + min ((p : Int) - a) i := IntWalk.wrap64_in _ ⟨by omega, by omega⟩
      have hs6 : IntKind.i64.wrap ((p : Int) - (a : Int)) = (p : Int) - a := IntWalk.i64_in _ ⟨by omega, by omega⟩
      have hs7 : IntKind.i64.wrap ((a : Int) + min ((p : Int) - a) (i : Int)) = (a : Int) + min ((p : Int) - a) i := IntWalk.i64_in _ ⟨by omega, by omega⟩
      have hr : ((a + min (p - a) i : Nat) : Int) = (a : Int) + min ((p : Int) - a) i := by omega
      have HR := Lib.hid hr; clear hr
      rw [if_neg h2]
      go_wp2_with fail
      go_ret
      exact ⟨by rw [HR.out]; rfl, rfl⟩
theorem fact_norm : Spans.Norm [(4, 6), (-3, 2), (2, 3)] [(0, 3), (4, 6)] := by
  refine ⟨by decide, fun k hk => ?_⟩
  rw [Bool.eq_iff_iff]
  simp [Spans.has]
  omega
theorem fact_norm2 : Spans.Norm [(0, 3), (4, 6)] [(0, 3), (4, 6)] := Spans.Norm.self (by decide)
set_option maxRecDepth 100000 in
theorem spanned_any (w : World) : Calls Try.prog 12 #[] w fun e w' => e = .returned (.bool true) ∧ Below w.heap.size w w' := by
  go_enter Try.func12, Try.ntmps12
  go_wp2_with fail
  have hrow := RowAt.new w 37 #[.int .i64 4, .int .i64 6, .int .i64 (-3), .int .i64 2, .int .i64 2, .int .i64 3]
  have hb1 := (Below.refl w.heap.size w).alloc (Nat.le_refl _) (.cells #[.int .i64 4, .int .i64 6, .int .i64 (-3), .int .i64 2, .int .i64 2, .int .i64 3] 37)
  have hrd := RowAt.reads (l := [(4, 6), (-3, 2), (2, 3)]) (n := 3) (cap := 3) hrow rfl (Nat.le_refl _)
  generalize w.alloc (.cells #[.int .i64 4, .int .i64 6, .int .i64 (-3), .int .i64 2, .int .i64 2, .int .i64 3] 37) = w1 at *
  refine (Of_any _ 3 3 _ w1 hrd (by decide)).mono ?_
  rintro e w2 ⟨a, m, c, ml, rfl, hml, hmn, hnorm, hown, hb2⟩
  obtain rfl := hnorm.uniq fact_norm
  obtain rfl : m = 2 := hml.symm
  have hrd2 := hown.reads hml
  have q2 := hb1.trans (hb2.mono hb1.size)
  clear hrow hrd hown hnorm hmn hml hb2 hb1
  have HRD := Lib.hid hrd2; clear hrd2
  go_wp2_with fail
  have hrow := RowAt.new w2 37 #[.int .i64 0, .int .i64 3, .int .i64 4, .int .i64 6]
  have hb3 := (Below.refl w2.heap.size w2).alloc (Nat.le_refl _) (.cells #[.int .i64 0, .int .i64 3, .int .i64 4, .int .i64 6] 37)
  have hrd := RowAt.reads (l := [(0, 3), (4, 6)]) (n := 2) (cap := 2) hrow rfl (Nat.le_refl _)
  have hrd3 := (HRD.out.below hb3).up hb3.size
  have q3 := q2.trans (hb3.mono q2.size)
  clear hrow hb3
  generalize w2.alloc (.cells #[.int .i64 0, .int .i64 3, .int .i64 4, .int .i64 6] 37) = w3 at *
  generalize w2.heap.size = B2 at *
  refine (spEqual_any a _ 2 2 c 2 _ _ _ _ w3 (by decide) hrd3 hrd).mono ?_
  rintro e w4 ⟨rfl, k, rfl⟩
  rw [decide_eq_true (rfl : ([(0, 3), (4, 6)] : List Spans.Sp) = [(0, 3), (4, 6)])]
  have hrd4 : ReadsSp (w3.drewN k) (w3.drewN k).heap.size a 2 c [(0, 3), (4, 6)] := hrd3
  have q4 : Below w.heap.size w (w3.drewN k) := ⟨q3.os, q3.tape, q3.output, q3.size, q3.block⟩
  clear hrd hrd3 q3 q2 HRD
  generalize w3.drewN k = w5 at *
  have HR5 := Lib.hid hrd4; clear hrd4
  go_wp2_with fail
  refine (Size_any a 2 c _ w5 HR5.out (by decide) (fun y hy => by simp at hy; rcases hy with rfl | rfl <;> decide)).mono ?_
  rintro e w6 ⟨ml, hnorm, rfl, hb6⟩
  obtain rfl := hnorm.uniq fact_norm2
  have hsz : Spans.size [(0, 3), (4, 6)] = 5 := by decide
  rw [hsz]
  have q6 := q4.trans (hb6.mono q4.size)
  clear hnorm hsz q4 hb6 HR5
  go_wp2_with fail
  have hmv : Calls Try.prog 13 #[.int .i64 7, .int .i64 2, .int .i64 3, .int .i64 1] w6 fun e w' => e = .returned (.int .i64 5) ∧ w6 = w' := Moved_any 7 2 3 1 w6 (by decide) (by decide) (by decide) (by decide)
  refine hmv.mono ?_
  rintro e w7 ⟨rfl, rfl⟩
  go_wp2_with fail
  go_ret
  exact ⟨rfl, q6⟩
end Go.Proofs.Ytnldobfafaajjaa
