/- Contracts for spans: And. -/
import Derived.Test.YtnldobfafaajjaaSpansE
import Derived.Test.YtnldobfafaajjaaPlainSpans2
import Derived.Deep.RegionHeld3
import Derived.Deep.CutRange
namespace Go.Proofs.Ytnldobfafaajjaa
open Go.RowKit
set_option linter.unusedVariables false
set_option linter.unusedSimpArgs false
def AndOut (B : Nat) (l g : List Spans.Sp) (n : Nat) (w : World) (e : Ending) (w' : World) : Prop := ∃ a m c, e = .returned (.slice a m c) ∧ ∃ nl ng, Spans.Norm l nl ∧ Spans.Norm g ng ∧ (Spans.andL nl ng).length = m ∧ m ≤ n ∧ Owns w' B 37 2 a m c (spCells (Spans.andL nl ng)) ∧ Below B w w'
theorem cons_cases {l : List Spans.Sp} {k n : Nat} (hn : l.length = n) (hk : k < n) : ∃ y, l.getD k (0, 0) = y ∧ l.drop k = y :: l.drop (k + 1) := by
  refine ⟨_, rfl, ?_⟩
  rw [List.getD_eq_getElem?_getD, List.getElem?_eq_getElem (by omega)]
  exact List.drop_eq_getElem_cons _
theorem andL_step (x y : Spans.Sp) (a b : List Spans.Sp) : Spans.andL (x :: a) (y :: b) = (if max x.1 y.1 < min x.2 y.2 then [(max x.1 y.1, min x.2 y.2)] else []) ++ if x.2 < y.2 then Spans.andL a (y :: b) else Spans.andL (x :: a) b := by rw [Spans.andL]
set_option maxRecDepth 100000 in
set_option maxHeartbeats 2000000 in
theorem And_any (x z : Option Addr) (n cap n' cap' : Nat) (l g : List Spans.Sp) (w : World) (hl : ReadsSp w w.heap.size x n cap l) (hg : ReadsSp w w.heap.size z n' cap' g) (hn : n ≤ 50000) (hn' : n' ≤ 50000) :
    Calls Try.prog 19 #[.slice x n cap, .slice z n' cap'] w (AndOut w.heap.size l g (n + n') w) := by
  have hof := Of_any x n cap l w hl (by omega)
  have HOF := Lib.hid hof; clear hof hl
  have HG := Lib.hid hg; clear hg
  unfold AndOut
  obtain ⟨B, hB⟩ : ∃ B, B = w.heap.size := ⟨_, rfl⟩
  rw [← hB] at HOF ⊢
  go_enter Try.func19, Try.ntmps19
  go_wp2_with fail
  refine HOF.out.mono ?_
  clear HOF
  rintro e w1 ⟨a1, m1, c1, nl, rfl, hml, hmn, hnorm, hown, hb1⟩
  have hrd := hown.reads hml
  have HG1 := Lib.hid ((HG.out.below (hB ▸ hb1)).up hb1.size)
  clear hown HG
  go_wp2_with fail
  refine (Of_any z n' cap' g w1 HG1.out (by omega)).mono ?_
  rintro e w2 ⟨a2, m2, c2, ng, rfl, hml2, hmn2, hnorm2, hown2, hb2⟩
  have hrd2 := hown2.reads hml2
  have hrd1 := (hrd.below hb2).up hb2.size
  have hb12 := hb1.trans (hb2.mono (by have := hb1.size; omega))
  clear hrd hown2 hb2 HG1
  obtain ⟨B1, hB1⟩ : ∃ B1, B1 = w2.heap.size := ⟨_, rfl⟩
  have hBB : B ≤ B1 := by rw [hB1, hB]; exact hb12.size
  rw [← hB1] at hrd1 hrd2
  have HB1 := Lib.hid hB1; clear hB1
  have HB := Lib.hid hB; clear hB
  have HR1 := Lib.hid hrd1; clear hrd1
  have HR2 := Lib.hid hrd2; clear hrd2
  have HN1 := Lib.hid hnorm; clear hnorm
  have HN2 := Lib.hid hnorm2; clear hnorm2
  have HL1 := Lib.hid hml; clear hml
  have HL2 := Lib.hid hml2; clear hml2
  go_wp2_with fail
  go_loopw [5, 6, 7] (fun v5 v6 v7 wr => ∃ (i j m c : Nat) (a : Option Addr) (out : List Spans.Sp), i ≤ m1 ∧ j ≤ m2 ∧ v6 = .int .i64 i ∧ v7 = .int .i64 j ∧ v5 = .slice a m c ∧ Hid (Owns wr B1 37 2 a m c (spCells out)) ∧ Hid (out ++ Spans.andL (nl.drop i) (ng.drop j) = Spans.andL nl ng) ∧ out.length = m ∧ m ≤ i + j ∧ Below B1 w2 wr) (fun _ v6 v7 _ => (m1 - (intOf v6).toNat) + (m2 - (intOf v7).toNat))
  case atStart => exact ⟨0, 0, 0, 0, none, [], by omega, by omega, rfl, rfl, rfl, Lib.hid (Owns.nil _ _ _ _), Lib.hid (by rw [List.drop_zero, List.drop_zero, List.nil_append]), rfl, by omega, Below.refl _ _⟩
  case round =>
    obtain ⟨i, j, m, c, a, out, hi, hj, rfl, rfl, rfl, HO, HE, hom, hmk, hbe⟩ := hrel
    have hbB : B1 ≤ wr.heap.size := by have := hbe.size; have := HB1.out; omega
    have hml3 : m + 1 ≤ maxLen := by unfold maxLen; omega
    have hby : (m + 1) * 16 ≤ 140737488355328 := by omega
    by_cases hij : i < m1 ∧ j < m2
    · obtain ⟨him, hjm⟩ := hij
      obtain ⟨g1, o1, rfl, hg1, hc0, hc1⟩ := (HR1.out.below hbe).2.2 i him
      obtain ⟨g2, o2, rfl, hg2, hc2, hc3⟩ := (HR2.out.below hbe).2.2 j hjm
      obtain ⟨y1, e1, r1⟩ := cons_cases HL1.out him
      obtain ⟨y2, e2, r2⟩ := cons_cases HL2.out hjm
      have he := HE.out
      rw [r1, r2, andL_step, ← r1, ← r2] at he
      rw [e1] at hc0 hc1
      rw [e2] at hc2 hc3
      clear e1 e2 r1 r2 HE
      obtain ⟨f1, t1⟩ := y1
      obtain ⟨f2, t2⟩ := y2
      simp only [] at hc0 hc1 hc2 hc3 he
      have HE := Lib.hid he; clear he
      have hiI : (i : Int) < (m1 : Int) := by omega
      have hjI : (j : Int) < (m2 : Int) := by omega
      have di : decide ((i : Int) < (m1 : Int)) = true := decide_eq_true hiI
      have dj : decide ((j : Int) < (m2 : Int)) = true := decide_eq_true hjI
      go_wp2_with fail
      have hz := (Below.refl wr.heap.size wr).alloc (Nat.le_refl _) (.cells #[.int .i64 0, .int .i64 0] 37)
      have k0 := (hz.cell (p := ⟨g1, o1 + i * 2, none⟩) (by show g1 < wr.heap.size; omega)).trans hc0
      have k1 := (hz.cell (p := ⟨g1, o1 + i * 2 + 1, none⟩) (by show g1 < wr.heap.size; omega)).trans hc1
      have k2 := (hz.cell (p := ⟨g2, o2 + j * 2, none⟩) (by show g2 < wr.heap.size; omega)).trans hc2
      have k3 := (hz.cell (p := ⟨g2, o2 + j * 2 + 1, none⟩) (by show g2 < wr.heap.size; omega)).trans hc3
      clear hz
      have x0 := World.new_ne wr ⟨g1, o1 + i * 2, none⟩ hc0
      have x1 := World.new_ne wr ⟨g1, o1 + i * 2 + 1, none⟩ hc1
      have x2 := World.new_ne wr ⟨g2, o2 + j * 2, none⟩ hc2
      have x3 := World.new_ne wr ⟨g2, o2 + j * 2 + 1, none⟩ hc3
      go_cut [8] from 13 to 69 (fun v8 wx => v8 = .pointer (some ⟨wr.heap.size, 0, none⟩) ∧ wx = (wr.alloc (.cells #[.int .i64 (max f1 f2), .int .i64 (min t1 t2)] 37)).drew)
      case first =>
        go_region_held3 (fun w1 => w1.cell? ⟨g1, o1 + i * 2, none⟩ = some (.int .i64 f1) ∧ w1.cell? ⟨g1, o1 + i * 2 + 1, none⟩ = some (.int .i64 t1) ∧ w1.cell? ⟨g2, o2 + j * 2, none⟩ = some (.int .i64 f2) ∧ w1.cell? ⟨g2, o2 + j * 2 + 1, none⟩ = some (.int .i64 t2))
          (first | exact ⟨hc0, hc1, hc2, hc3⟩ | exact ⟨k0, k1, k2, k3⟩ | go_keep) (fail)
        all_goals go_wp2_with fail
        all_goals go_meet
        all_goals exact ⟨rfl, rfl⟩
      case rest =>
        obtain ⟨rfl, rfl⟩ := hcut
        clear k0 k1 k2 k3 x0 x1 x2 x3
        have hrow : RowAt ((wr.alloc (.cells #[.int .i64 (max f1 f2), .int .i64 (min t1 t2)] 37)).drew) wr.heap.size 0 37 [.int .i64 (max f1 f2), .int .i64 (min t1 t2)] := RowAt.new wr 37 #[.int .i64 (max f1 f2), .int .i64 (min t1 t2)]
        have ho1 : Owns ((wr.alloc (.cells #[.int .i64 (max f1 f2), .int .i64 (min t1 t2)] 37)).drew) B1 37 2 a m c (spCells out) := HO.out.alloc (.cells #[.int .i64 (max f1 f2), .int .i64 (min t1 t2)] 37)
        have hb2 : Below B1 w2 ((wr.alloc (.cells #[.int .i64 (max f1 f2), .int .i64 (min t1 t2)] 37)).drew) := (hbe.alloc hbB (.cells #[.int .i64 (max f1 f2), .int .i64 (min t1 t2)] 37)).drew
        have hab := HO.out.blk_lt
        have hlo : ∀ x, a = some x → x.block ≠ wr.heap.size := fun x hx => by have := hab x hx; omega
        have p1 := (hb2.cell (p := ⟨g1, o1 + i * 2 + 1, none⟩) hg1)
        have p2 := (hbe.cell (p := ⟨g1, o1 + i * 2 + 1, none⟩) hg1)
        have q1 : w2.cell? ⟨g1, o1 + i * 2 + 1, none⟩ = some (.int .i64 t1) := p2.symm.trans hc1
        have p3 := (hbe.cell (p := ⟨g2, o2 + j * 2 + 1, none⟩) hg2)
        have q2 : w2.cell? ⟨g2, o2 + j * 2 + 1, none⟩ = some (.int .i64 t2) := p3.symm.trans hc3
        clear p1 p2 p3 hc0 hc1 hc2 hc3 HO hbe hbB hab
        have hB1 := hb2.size
        have hbB2 : B1 ≤ ((wr.alloc (.cells #[.int .i64 (max f1 f2), .int .i64 (min t1 t2)] 37)).drew).heap.size := by have := HB1.out; omega
        generalize (wr.alloc (.cells #[.int .i64 (max f1 f2), .int .i64 (min t1 t2)] 37)).drew = wz at *
        generalize wr.heap.size = bx at *
        clear hB1
        generalize max f1 f2 = mx at *
        generalize min t1 t2 = mn at *
        have e0 := hrow.cell0 0 (by simp)
        have e1 := hrow.cell0 1 (by simp)
        simp only [List.getElem_cons_zero, List.getElem_cons_succ] at e0 e1
        have i0 : (0 : Int) ≤ (i : Int) := by omega
        have j0 : (0 : Int) ≤ (j : Int) := by omega
        by_cases hlt : mx < mn
        · have d1 : decide (mx < mn) = true := decide_eq_true hlt
          have he := HE.out
          rw [if_pos hlt, ← List.append_assoc] at he
          clear HE
          have HE := Lib.hid he; clear he
          go_wp2_with (with_reducible refine wpList_push _ rfl _ _ 32 rfl B1 37 (.agg #[.int .i64 0, .int .i64 0]) 2 16 Try.underlying32 infoSp rfl (by decide) a m c _ rfl ho1 [.int .i64 mx, .int .i64 mn] rfl (by simp [Value.oneCell']) rfl hml3 hby hbB2 ?_; intro a2 cap2 w3 hown2 hgrow2 hloc2 hsz2 hex2; have hb3 := below_blk hb2 ho1 (Nat.le_refl _) hbB2 hgrow2; have r1 := (hb3.cell (p := ⟨g1, o1 + i * 2 + 1, none⟩) hg1).trans q1; have r2 := (hb3.cell (p := ⟨g2, o2 + j * 2 + 1, none⟩) hg2).trans q2)
          have HH := Lib.hid (And.intro hown2 hb3)
          clear hown2 hgrow2 hloc2 hsz2 hex2 hb3 hrow ho1 hb2 hbB2 hlo e0 e1 q1 q2
          go_cut [65] from 13 to 69 (fun v65 wx => v65 = .bool (decide (t1 < t2)) ∧ ∃ nq, wx = w3.drewN nq)
          case first =>
            go_quiet (fail)
            go_wp2_with fail
            go_meet
            exact ⟨rfl, nq, rfl⟩
          obtain ⟨rfl, nq, rfl⟩ := hcut
          obtain ⟨hown2, hb3⟩ := HH.out
          have HO3 : Hid (Owns (w3.drewN nq) B1 37 2 a2 (m + 1) cap2 (spCells (out ++ [(mx, mn)]))) := Lib.hid (by rw [spCells_append]; exact hown2.drewN _)
          have HB3 := Lib.hid (bdrewN hb3 nq)
          clear hown2 hb3 HH r1 r2
          generalize w3.drewN nq = w4 at *
          by_cases ht : t1 < t2
          · have d2 : decide (t1 < t2) = true := decide_eq_true ht
            rw [if_pos ht] at HE
            rw [d2]
            go_wp2_with fail
            go_roundw
            case rel => exact ⟨i + 1, j, m + 1, cap2, a2, out ++ [(mx, mn)], by omega, by omega, by go_num, rfl, rfl, HO3, HE, by simp [hom], by omega, HB3.out⟩
            case measure => simp [intOf]; omega
          · have d2 : decide (t1 < t2) = false := decide_eq_false ht
            rw [if_neg ht] at HE
            rw [d2]
            go_wp2_with fail
            go_roundw
            case rel => exact ⟨i, j + 1, m + 1, cap2, a2, out ++ [(mx, mn)], by omega, by omega, rfl, by go_num, rfl, HO3, HE, by simp [hom], by omega, HB3.out⟩
            case measure => simp [intOf]; omega
        · have d1 : decide (mx < mn) = false := decide_eq_false hlt
          have he := HE.out
          rw [if_neg hlt, List.nil_append] at he
          clear HE
          have HE := Lib.hid he; clear he
          have r1 := (hb2.cell (p := ⟨g1, o1 + i * 2 + 1, none⟩) hg1).trans q1
          have r2 := (hb2.cell (p := ⟨g2, o2 + j * 2 + 1, none⟩) hg2).trans q2
          go_wp2_with fail
          have HH := Lib.hid (And.intro ho1 hb2)
          clear hrow ho1 hb2 hbB2 hlo e0 e1 q1 q2
          go_cut [65] from 13 to 69 (fun v65 wx => v65 = .bool (decide (t1 < t2)) ∧ ∃ nq, wx = wz.drewN nq)
          case first =>
            go_quiet (fail)
            go_wp2_with fail
            go_meet
            exact ⟨rfl, nq, rfl⟩
          obtain ⟨rfl, nq, rfl⟩ := hcut
          obtain ⟨ho1, hb2⟩ := HH.out
          have HO3 : Hid (Owns (wz.drewN nq) B1 37 2 a m c (spCells out)) := Lib.hid (ho1.drewN _)
          have HB3 := Lib.hid (bdrewN hb2 nq)
          clear ho1 hb2 HH r1 r2
          generalize wz.drewN nq = w4 at *
          by_cases ht : t1 < t2
          · have d2 : decide (t1 < t2) = true := decide_eq_true ht
            rw [if_pos ht] at HE
            rw [d2]
            go_wp2_with fail
            go_roundw
            case rel => exact ⟨i + 1, j, m, c, a, out, by omega, by omega, by go_num, rfl, rfl, HO3, HE, hom, by omega, HB3.out⟩
            case measure => simp [intOf]; omega
          · have d2 : decide (t1 < t2) = false := decide_eq_false ht
            rw [if_neg ht] at HE
            rw [d2]
            go_wp2_with fail
            go_roundw
            case rel => exact ⟨i, j + 1, m, c, a, out, by omega, by omega, rfl, by go_num, rfl, HO3, HE, hom, by omega, HB3.out⟩
            case measure => simp [intOf]; omega
    · have hnil : Spans.andL (nl.drop i) (ng.drop j) = [] := by
        rcases (by omega : i = m1 ∨ j = m2) with h | h
        · rw [List.drop_of_length_le (by rw [HL1.out]; omega), Spans.andL]
        · rw [List.drop_of_length_le (l := ng) (by rw [HL2.out]; omega)]
          cases nl.drop i <;> rw [Spans.andL]
      have he := HE.out
      rw [hnil, List.append_nil] at he
      clear HE hnil
      have HE := Lib.hid he; clear he
      have hlen : m ≤ n + n' := by omega
      have hfin : ∃ a_1 m_1 c_1, Ending.returned (.slice a m c) = .returned (.slice a_1 m_1 c_1) ∧ ∃ nl ng, Spans.Norm l nl ∧ Spans.Norm g ng ∧ (Spans.andL nl ng).length = m_1 ∧ m_1 ≤ n + n' ∧ Owns wr B 37 2 a_1 m_1 c_1 (spCells (Spans.andL nl ng)) ∧ Below B w wr :=
        ⟨a, m, c, rfl, nl, ng, HN1.out, HN2.out, by rw [← HE.out]; exact hom, hlen, by rw [← HE.out]; exact HO.out.mono hBB, hb12.trans (hbe.mono hBB)⟩
      have HF := Lib.hid hfin; clear hfin
      by_cases him : i < m1
      · obtain rfl : j = m2 := by omega
        have hiI : (i : Int) < (m1 : Int) := by omega
        have di : decide ((i : Int) < (m1 : Int)) = true := decide_eq_true hiI
        have dj : decide ((j : Int) < (j : Int)) = false := by simp
        go_wp2_with fail
        go_ret
        exact HF.out
      · obtain rfl : i = m1 := by omega
        have di : decide ((i : Int) < (i : Int)) = false := by simp
        go_wp2_with fail
        go_ret
        exact HF.out
end Go.Proofs.Ytnldobfafaajjaa
