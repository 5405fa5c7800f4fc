/- Contracts for spans: Not. -/
import Derived.Test.YtnldobfafaajjaaSpansE
import Derived.Test.YtnldobfafaajjaaPlainSpans2
namespace Go.Proofs.Ytnldobfafaajjaa
open Go.RowKit
set_option linter.unusedVariables false
set_option linter.unusedSimpArgs false
def NotOut (B : Nat) (l : List Spans.Sp) (n : Nat) (N : Int) (w : World) (e : Ending) (w' : World) : Prop := ∃ a m c, e = .returned (.slice a m c) ∧ ∃ nl, Spans.Norm l nl ∧ nl.length ≤ n ∧ (Spans.notL N 0 nl).length = m ∧ m ≤ n + 1 ∧ Owns w' B 37 2 a m c (spCells (Spans.notL N 0 nl)) ∧ Below B w w'
set_option maxRecDepth 100000 in
set_option maxHeartbeats 2000000 in
theorem Not_any (x : Option Addr) (n cap : Nat) (l : List Spans.Sp) (N : Int) (w : World) (hl : ReadsSp w w.heap.size x n cap l) (hn : n ≤ 100000) :
    Calls Try.prog 21 #[.slice x n cap, .int .i64 N] w (NotOut w.heap.size l n N w) := by
  have hof := Of_any x n cap l w hl hn
  have HOF := Lib.hid hof; clear hof hl
  unfold NotOut
  obtain ⟨B, hB⟩ : ∃ B, B = w.heap.size := ⟨_, rfl⟩
  rw [← hB] at HOF ⊢
  have HB := Lib.hid hB; clear hB
  go_enter Try.func21, Try.ntmps21
  go_wp2_with fail
  refine HOF.out.mono ?_
  clear HOF
  rintro e w1 ⟨a1, m1, c1, nl, rfl, hml, hmn, hnorm, hown, hb1⟩
  have hrd := hown.reads hml
  obtain ⟨B1, hB1⟩ : ∃ B1, B1 = w1.heap.size := ⟨_, rfl⟩
  rw [← hB1] at hrd
  have HRD := Lib.hid hrd; clear hrd hown
  have hBB : B ≤ B1 := by rw [hB1, HB.out]; exact hb1.size
  have HB1 := Lib.hid hB1; clear hB1
  have HNM := Lib.hid hnorm; clear hnorm
  have HML := Lib.hid hml; clear hml
  go_wp2_with fail
  go_loopw [5, 6, 12] (fun v5 v6 v12 wr => ∃ (k m c : Nat) (p : Int) (a : Option Addr) (out : List Spans.Sp), k ≤ m1 ∧ v12 = .int .i64 k ∧ v6 = .int .i64 p ∧ v5 = .slice a m c ∧ Hid (Owns wr B1 37 2 a m c (spCells out)) ∧ Hid (out ++ Spans.notL N p (nl.drop k) = Spans.notL N 0 nl) ∧ out.length = m ∧ m ≤ k ∧ Below B1 w1 wr) (fun _ _ v12 _ => m1 - (intOf v12).toNat)
  case atStart => exact ⟨0, 0, 0, 0, none, [], by omega, rfl, rfl, rfl, Lib.hid (Owns.nil _ _ _ _), Lib.hid (by rw [List.drop_zero, List.nil_append]), rfl, by omega, Below.refl _ _⟩
  case round =>
    obtain ⟨k, m, c, p, a, out, hk, rfl, rfl, rfl, HO, HE, hom, hmk, hbe⟩ := hrel
    have hbB : B1 ≤ wr.heap.size := by have := hbe.size; have := HB1.out; omega
    have hml2 : m + 1 ≤ maxLen := by unfold maxLen; omega
    have hby : (m + 1) * 16 ≤ 140737488355328 := by omega
    have hab := HO.out.blk_lt
    by_cases hkm : k < m1
    · obtain ⟨g, off, rfl, hg, hc0, hc1⟩ := (HRD.out.below hbe).2.2 k hkm
      have hlt : k < nl.length := by rw [HML.out]; exact hkm
      have hdr : nl.drop k = nl.getD k (0, 0) :: nl.drop (k + 1) := by
        rw [List.getD_eq_getElem?_getD, List.getElem?_eq_getElem hlt]
        exact List.drop_eq_getElem_cons _
      have he := HE.out
      rw [hdr, Spans.notL] at he
      clear hdr HE
      generalize nl.getD k (0, 0) = y at *
      obtain ⟨f, t⟩ := y
      simp only [] at hc0 hc1 he
      have hkI : (k : Int) < (m1 : Int) := by omega
      have hrow := RowAt.new wr 37 #[.int .i64 f, .int .i64 t]
      have hrlt : wr.heap.size < (wr.alloc (.cells #[.int .i64 f, .int .i64 t] 37)).heap.size := by simp
      have ho1 := HO.out.alloc (.cells #[.int .i64 f, .int .i64 t] 37)
      have hb2 := hbe.alloc hbB (.cells #[.int .i64 f, .int .i64 t] 37)
      have hB1 : B1 ≤ (wr.alloc (.cells #[.int .i64 f, .int .i64 t] 37)).heap.size := by simp; omega
      have hWs : wr.heap.size + 1 = (wr.alloc (.cells #[.int .i64 f, .int .i64 t] 37)).heap.size := by simp
      have HWS := Lib.hid hWs; clear hWs
      by_cases hNf : N ≤ f
      · have d1 : decide (N ≤ f) = true := decide_eq_true hNf
        rw [if_pos hNf] at he
        have HE := Lib.hid he; clear he
        by_cases hpN : p < N
        · have d9 : decide (p < N) = true := decide_eq_true hpN
          have he := HE.out
          rw [if_pos hpN] at he
          have HE2 := Lib.hid he; clear he HE
          go_wp2_with (with_reducible refine wpList_pushW _ _ HWS.out rfl _ _ 32 rfl B1 37 (.agg #[.int .i64 0, .int .i64 0]) 2 16 Try.underlying32 infoSp rfl (by decide) a m c _ rfl ho1 [.int .i64 p, .int .i64 N] rfl (by simp [Value.oneCell']) rfl hml2 hby hB1 ?_; intro a2 cap2 w2 hown2 hgrow2 hloc2 hsz2 hex2; have hb3 := below_blk hb2 ho1 (Nat.le_refl _) hB1 hgrow2)
          go_ret
          exact ⟨a2, m + 1, cap2, rfl, nl, HNM.out, by rw [HML.out]; omega, by rw [← HE2.out]; simp [hom], by omega, (by rw [← HE2.out, spCells_append]; exact hown2.mono hBB), hb1.trans (hb3.mono hBB)⟩
        · have d9 : decide (p < N) = false := decide_eq_false hpN
          have he := HE.out
          rw [if_neg hpN, List.append_nil] at he
          have HE2 := Lib.hid he; clear he HE
          go_wp2_with fail
          go_ret
          exact ⟨a, m, c, rfl, nl, HNM.out, by rw [HML.out]; omega, by rw [← HE2.out]; exact hom, by omega, (by rw [← HE2.out]; exact ho1.mono hBB), hb1.trans (hb2.mono hBB)⟩
      · have d1 : decide (N ≤ f) = false := decide_eq_false hNf
        rw [if_neg hNf] at he
        by_cases hpf : p < f
        · have d2 : decide (p < f) = true := decide_eq_true hpf
          rw [if_pos hpf, ← List.append_assoc] at he
          have HE := Lib.hid he; clear he
          go_wp2_with (with_reducible refine wpList_pushW _ _ HWS.out rfl _ _ 32 rfl B1 37 (.agg #[.int .i64 0, .int .i64 0]) 2 16 Try.underlying32 infoSp rfl (by decide) a m c _ rfl ho1 [.int .i64 p, .int .i64 f] rfl (by simp [Value.oneCell']) rfl hml2 hby hB1 ?_; intro a2 cap2 w2 hown2 hgrow2 hloc2 hsz2 hex2; have hrow2 := hrow.of_heap (hgrow2.block _ hrlt (fun h => by cases a with | none => simp [blk] at h | some y => have := hab y rfl; simp [blk] at h; omega)); have hb3 := below_blk hb2 ho1 (Nat.le_refl _) hB1 hgrow2; have q1 := hrow2.cell0 1 (by simp); simp only [List.getElem_cons_succ, List.getElem_cons_zero] at q1)
          go_roundw
          case rel => exact ⟨k + 1, m + 1, cap2, t, a2, out ++ [(p, f)], by omega, by go_num, rfl, rfl, Lib.hid (by rw [spCells_append]; exact hown2), HE, by simp [hom], by omega, hb3⟩
          case measure => simp [intOf]; omega
        · have d2 : decide (p < f) = false := decide_eq_false hpf
          rw [if_neg hpf, List.nil_append] at he
          have HE := Lib.hid he; clear he
          go_wp2_with fail
          go_roundw
          case rel => exact ⟨k + 1, m, c, t, a, out, by omega, by go_num, rfl, rfl, Lib.hid ho1, HE, hom, by omega, hb2⟩
          case measure => simp [intOf]; omega
    · obtain rfl : k = m1 := by omega
      have hd : decide ((k : Int) < (k : Int)) = false := by simp
      have he := HE.out
      rw [List.drop_of_length_le (by rw [HML.out]; exact Nat.le_refl _), Spans.notL] at he
      clear HE
      have HE := Lib.hid he; clear he
      have ho1 := HO.out
      have hb2 := hbe
      have hB1 := hbB
      by_cases hpN : p < N
      · have d9 : decide (p < N) = true := decide_eq_true hpN
        have he := HE.out
        rw [if_pos hpN] at he
        have HE2 := Lib.hid he; clear he HE
        go_wp2_with (with_reducible refine wpList_pushW _ _ rfl rfl _ _ 32 rfl B1 37 (.agg #[.int .i64 0, .int .i64 0]) 2 16 Try.underlying32 infoSp rfl (by decide) a m c _ rfl ho1 [.int .i64 p, .int .i64 N] rfl (by simp [Value.oneCell']) rfl hml2 hby hB1 ?_; intro a2 cap2 w2 hown2 hgrow2 hloc2 hsz2 hex2; have hb3 := below_blk hb2 ho1 (Nat.le_refl _) hB1 hgrow2)
        go_ret
        exact ⟨a2, m + 1, cap2, rfl, nl, HNM.out, by rw [HML.out]; omega, by rw [← HE2.out]; simp [hom], by omega, (by rw [← HE2.out, spCells_append]; exact hown2.mono hBB), hb1.trans (hb3.mono hBB)⟩
      · have d9 : decide (p < N) = false := decide_eq_false hpN
        have he := HE.out
        rw [if_neg hpN, List.append_nil] at he
        have HE2 := Lib.hid he; clear he HE
        go_wp2_with fail
        go_ret
        exact ⟨a, m, c, rfl, nl, HNM.out, by rw [HML.out]; omega, by rw [← HE2.out]; exact hom, by omega, (by rw [← HE2.out]; exact ho1.mono hBB), hb1.trans (hb2.mono hBB)⟩
end Go.Proofs.Ytnldobfafaajjaa
