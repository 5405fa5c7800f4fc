/- Contract of package diff: Back, of edits that fit. -/
import Derived.Test.YtmmkbjinkdgdbaaDiffI
namespace Go.Proofs.Ytmmkbjinkdgdbaa
open Go.RowKit
set_option linter.unusedVariables false
set_option linter.unusedSimpArgs false
set_option maxRecDepth 10000
namespace Diff
/-- the edits that undo others -/
def backL : List UInt8 → List Ed → List Ed
  | _, [] => []
  | x, e :: l => if e.what = 1 then ⟨1, e.n, []⟩ :: backL (x.drop e.n) l else if e.what = 2 then ⟨3, 0, x.take e.n⟩ :: backL (x.drop e.n) l else ⟨2, e.text.length, []⟩ :: backL x l
theorem backL_fine : ∀ (l : List Ed) (x : List UInt8), (∀ e ∈ l, Fine e) → tot l = x.length → (∀ f ∈ backL x l, Fine f) ∧ tot (backL x l) = (run x l).length ∧ run (run x l) (backL x l) = x ∧ (backL x l).length = l.length := by
  intro l
  induction l with
  | nil =>
    intro x _ h
    have : x = [] := List.length_eq_zero_iff.1 (by simpa [tot] using h.symm)
    subst this
    exact ⟨fun f hf => (by cases hf), rfl, rfl, rfl⟩
  | cons e l ih =>
    intro x hf ht
    rw [tot_cons] at ht
    have hfe := hf e (by simp)
    have hfl : ∀ e ∈ l, Fine e := fun f h => hf f (by simp [h])
    rcases hfe with ⟨hw, hz⟩ | ⟨hw, hz⟩ | ⟨hw, hz⟩
    · obtain ⟨h1, h2, h3, h4⟩ := ih (x.drop e.n) hfl (by rw [List.length_drop]; omega)
      have hl : (x.take e.n).length = e.n := by rw [List.length_take]; omega
      rw [backL, if_pos hw, run, if_pos hw]
      refine ⟨fun f h => ?_, ?_, ?_, by simp [h4]⟩
      · rcases List.mem_cons.1 h with rfl | h
        · exact .inl ⟨rfl, rfl⟩
        · exact h1 f h
      · rw [tot_cons, h2, List.length_append, hl]
      · rw [run, if_pos rfl]
        show (x.take e.n ++ run (x.drop e.n) l).take e.n ++ run ((x.take e.n ++ run (x.drop e.n) l).drop e.n) _ = x
        rw [List.take_append_of_le_length (by omega), List.take_of_length_le (by omega), List.drop_append_of_le_length (by omega), List.drop_of_length_le (by omega), List.nil_append, h3, List.take_append_drop]
    · obtain ⟨h1, h2, h3, h4⟩ := ih (x.drop e.n) hfl (by rw [List.length_drop]; omega)
      have n1 : ¬ e.what = 1 := by omega
      rw [backL, if_neg n1, if_pos hw, run, if_neg n1, if_pos hw]
      refine ⟨fun f h => ?_, ?_, ?_, by simp [h4]⟩
      · rcases List.mem_cons.1 h with rfl | h
        · exact .inr (.inr ⟨rfl, rfl⟩)
        · exact h1 f h
      · rw [tot_cons, h2, Nat.zero_add]
      · rw [run, if_neg (by simp), if_neg (by simp)]
        show x.take e.n ++ run (run (x.drop e.n) l) _ = x
        rw [h3, List.take_append_drop]
    · obtain ⟨h1, h2, h3, h4⟩ := ih x hfl (by omega)
      have n1 : ¬ e.what = 1 := by omega
      have n2 : ¬ e.what = 2 := by omega
      rw [backL, if_neg n1, if_neg n2, run, if_neg n1, if_neg n2]
      refine ⟨fun f h => ?_, ?_, ?_, by simp [h4]⟩
      · rcases List.mem_cons.1 h with rfl | h
        · exact .inr (.inl ⟨rfl, rfl⟩)
        · exact h1 f h
      · rw [tot_cons, h2, List.length_append]
      · rw [run, if_neg (by simp), if_pos rfl]
        show run ((e.text ++ run x l).drop e.text.length) _ = x
        rw [List.drop_left, h3]
/-- on the way -/
structure Bk (a : List UInt8) (l : List Ed) (k : Nat) (out : List Ed) (x : List UInt8) : Prop where
  eq : out ++ backL x (l.drop k) = backL a l
  all : tot (l.drop k) = x.length
theorem Bk.start (a : List UInt8) (l : List Ed) (h : tot l = a.length) : Bk a l 0 [] a := ⟨by simp, by simpa using h⟩
theorem Bk.keep {a : List UInt8} {l : List Ed} {k : Nat} {s : List Ed} {x : List UInt8} {e : Ed} (h : Bk a l k s x) (hd : l.drop k = e :: l.drop (k + 1)) (hw : e.what = 1) : Bk a l (k + 1) (s ++ [⟨1, e.n, []⟩]) (x.drop e.n) := by
  obtain ⟨h1, h2⟩ := h
  rw [hd] at h1 h2
  rw [tot_cons] at h2
  refine ⟨?_, by rw [List.length_drop]; omega⟩
  rw [backL, if_pos hw] at h1
  rw [List.append_assoc]; exact h1
theorem Bk.take {a : List UInt8} {l : List Ed} {k : Nat} {s : List Ed} {x : List UInt8} {e : Ed} (h : Bk a l k s x) (hd : l.drop k = e :: l.drop (k + 1)) (hw : e.what = 2) : Bk a l (k + 1) (s ++ [⟨3, 0, x.take e.n⟩]) (x.drop e.n) := by
  obtain ⟨h1, h2⟩ := h
  rw [hd] at h1 h2
  rw [tot_cons] at h2
  refine ⟨?_, by rw [List.length_drop]; omega⟩
  rw [backL, if_neg (by omega), if_pos hw] at h1
  rw [List.append_assoc]; exact h1
theorem Bk.give {a : List UInt8} {l : List Ed} {k : Nat} {s : List Ed} {x : List UInt8} {e : Ed} (h : Bk a l k s x) (hd : l.drop k = e :: l.drop (k + 1)) (hw : e.what = 3) (hn : e.n = 0) : Bk a l (k + 1) (s ++ [⟨2, e.text.length, []⟩]) x := by
  obtain ⟨h1, h2⟩ := h
  rw [hd] at h1 h2
  rw [tot_cons] at h2
  refine ⟨?_, by omega⟩
  rw [backL, if_neg (by omega), if_neg (by omega)] at h1
  rw [List.append_assoc]; exact h1
theorem Bk.fits {a : List UInt8} {l : List Ed} {k : Nat} {s : List Ed} {x : List UInt8} {e : Ed} (h : Bk a l k s x) (hd : l.drop k = e :: l.drop (k + 1)) : e.n ≤ x.length := by
  have := h.all
  rw [hd, tot_cons] at this
  omega
end Diff
set_option maxHeartbeats 2000000 in
set_option maxRecDepth 100000 in
theorem Back_ok (x : Option Addr) (n cap B' : Nat) (l : List Diff.Ed) (a : List UInt8) (w : World) (hl : Owns w B' 99 3 x n cap (Diff.edsCells l)) (hln : l.length = n) (hn : n ≤ 4000) (hf : ∀ f ∈ l, Diff.Fine f) (ht : Diff.tot l = a.length) (ha : a.length ≤ 4000) (hr : (Diff.run a l).length ≤ 4000) (htx : ∀ f ∈ l, f.text.length ≤ 4000) :
    Calls Try.prog 55 #[.string (bstr a), .slice x n cap] w fun r w' => ∃ y m c, r = .returned (.tuple #[.slice y m c, .nilIface]) ∧ m = n ∧ Owns w' w.heap.size 99 3 y m c (Diff.edsCells (Diff.backL a l)) ∧ Below w.heap.size w w' := by
  obtain ⟨B, hB⟩ : ∃ B, B = w.heap.size := ⟨_, rfl⟩
  have hap := Apply_ok x n cap B' l a w hl hln hn hf ht ha hr
  have hlo := hl.blk_lt
  rw [← hB] at hlo hap ⊢
  have HB := Lib.hid hB; clear hB
  have HL := Lib.hid hl; clear hl
  have HFN := Lib.hid hf; clear hf
  have HLO := Lib.hid hlo; clear hlo
  have HTX := Lib.hid htx; clear htx
  have HLN := Lib.hid (Diff.backL_fine l a HFN.out ht).2.2.2
  have HM0 := Lib.hid (Diff.Bk.start a l ht); clear ht
  have HAP := Lib.hid hap; clear hap
  go_enter Try.func55, Try.ntmps55
  go_wp2_with fail
  refine HAP.out.mono ?_
  rintro e w1 ⟨rfl, hb1⟩
  clear HAP
  go_wp2_with fail
  go_loopw [0, 8, 22] (fun v0 v8 v22 wr => ∃ (k m c : Nat) (z : Option Addr) (out : List Diff.Ed) (y : List UInt8), k ≤ n ∧ v22 = .int .i64 k ∧ v0 = .string (bstr y) ∧ v8 = .slice z m c ∧ Hid (Owns wr B 99 3 z m c (Diff.edsCells out)) ∧ Hid (Diff.Bk a l k out y) ∧ out.length = m ∧ m = k ∧ y.length ≤ 4000 ∧ Below B w wr) (fun _ _ v22 _ => n - (intOf v22).toNat)
  case atStart => exact ⟨0, 0, 0, none, [], a, by omega, rfl, rfl, rfl, Lib.hid (Owns.nil _ _ _ _), HM0, rfl, rfl, ha, hb1⟩
  case round =>
    clear HM0
    obtain ⟨k, m, c, z, out, y, hk, rfl, rfl, rfl, HO, HM, hom, hmk, hy, hbe⟩ := hrel
    have HMK := Lib.hid hmk; clear hmk
    have hbB : B ≤ wr.heap.size := by have := hbe.size; have := HB.out; omega
    by_cases hkn : k < n
    · cases x with
      | none => exfalso; have := HL.out.of_none; omega
      | some x =>
        have hown := HL.out.belowLt hbe HLO.out
        obtain ⟨e1, e2, e3, e4, e5⟩ := hown.row
        rw [e1]
        have hxb := HLO.out x rfl
        clear hown e1 e2 e3 e4
        generalize x.block = gl at *
        have hd : l.drop k = l[k]'(by omega) :: l.drop (k + 1) := List.drop_eq_getElem_cons (by omega)
        have hfe := HFN.out (l[k]'(by omega)) (List.getElem_mem _)
        have hte := HTX.out (l[k]'(by omega)) (List.getElem_mem _)
        have hsplit : Diff.edsCells l = Diff.edsCells (l.take k) ++ (Diff.edCells (l[k]'(by omega)) ++ Diff.edsCells (l.drop (k + 1))) := by
          conv => lhs; rw [← List.take_append_drop k l, hd]
          rw [Diff.edsCells_append]
          rfl
        have htl : (Diff.edsCells (l.take k)).length = k * 3 := by rw [Diff.edsCells_length, List.length_take]; congr 1; omega
        rw [hsplit] at e5
        clear hsplit
        generalize l[k]'(by omega) = e at *
        have hlen : 3 ≤ (Diff.edCells e ++ Diff.edsCells (l.drop (k + 1))).length := by simp [Diff.edCells]
        have c0 := e5.cell0 (k * 3) (by rw [List.length_append]; omega)
        have c1 := e5.cell0 (k * 3 + 1) (by rw [List.length_append]; omega)
        have c2 := e5.cell0 (k * 3 + 2) (by rw [List.length_append]; omega)
        rw [List.getElem_append_right (by omega), List.getElem_append_left (by simp [Diff.edCells]; omega)] at c0 c1 c2
        simp only [htl, Nat.sub_self, Nat.add_sub_cancel_left, Diff.edCells, List.getElem_cons_zero, List.getElem_cons_succ] at c0 c1 c2
        clear e5 htl hlen
        have HD := Lib.hid hd; clear hd
        rcases hfe with ⟨hw, hz⟩ | ⟨hw, hz⟩ | ⟨hw, hz⟩
        · obtain ⟨en, et, rfl⟩ : ∃ en et, e = ⟨1, en, et⟩ := ⟨e.n, e.text, by cases e; simp only [] at hw; subst hw; rfl⟩
          clear hz
          change wr.cell? _ = some (.int .i64 1) at c0
          change wr.cell? _ = some (.int .i64 (en : Nat)) at c1
          change wr.cell? _ = some (.string (bstr et)) at c2
          have hte : et.length ≤ 4000 := hte
          have hfit : en ≤ y.length := HM.out.fits HD.out
          have hfL : (en : Int) ≤ (y.length : Int) := by omega
          have hx1 := bstr_front y en
          have hx2 := bstr_rest y en
          have hyd : (y.drop en).length ≤ 4000 := by rw [List.length_drop]; omega
          have hkI : (k : Int) < (n : Int) := by omega
          have hrow := RowAt.new wr 99 #[.int .i64 1, .int .i64 (en : Nat), .string (bstr et)]
          have hrlt : wr.heap.size < (wr.alloc (.cells #[.int .i64 1, .int .i64 (en : Nat), .string (bstr et)] 99)).heap.size := by simp
          have ho1 := HO.out.alloc (.cells #[.int .i64 1, .int .i64 (en : Nat), .string (bstr et)] 99)
          have hb2 := hbe.alloc hbB (.cells #[.int .i64 1, .int .i64 (en : Nat), .string (bstr et)] 99)
          have hab := HO.out.blk_lt
          have hB1 : B ≤ (wr.alloc (.cells #[.int .i64 1, .int .i64 (en : Nat), .string (bstr et)] 99)).heap.size := by simp; omega
          have hml2 : m + 1 ≤ maxLen := by unfold maxLen; have := HMK.out; omega
          have hby : (m + 1) * 32 ≤ 140737488355328 := by have := HMK.out; omega
          have hWs : wr.heap.size + 1 = (wr.alloc (.cells #[.int .i64 1, .int .i64 (en : Nat), .string (bstr et)] 99)).heap.size := by simp
          have HWS := Lib.hid hWs; clear hWs
          have HM2 := Lib.hid (HM.out.keep HD.out rfl)
          go_wp2_with (with_reducible refine wpList_pushAt _ _ HWS.out rfl _ _ 93 rfl B 99 (.agg #[.int .i64 0, .int .i64 0, .string ByteArray.empty]) 3 32 Try.underlying93 infoEd rfl (by decide) z m c _ rfl ho1 [.int .i64 1, .int .i64 (en : Nat), .string ⟨#[]⟩] rfl (by simp [Value.oneCell']) rfl hml2 hby hB1 ?_; intro a2 cap2 w2 hown2 hgrow2 hloc2 hsz2 hex2; obtain ⟨ga, rfl⟩ := hex2; have hrow2 := hrow.of_heap (hgrow2.block _ hrlt (fun h => by cases z with | none => simp [blk] at h | some y => have := hab y rfl; simp [blk] at h; omega)); have hb3 := below_blk hb2 ho1 (Nat.le_refl _) hB1 hgrow2; have q0 := hrow2.cell0 0 (by simp); have q1 := hrow2.cell0 1 (by simp); have q2 := hrow2.cell0 2 (by simp); simp only [List.getElem_cons_succ, List.getElem_cons_zero] at q0 q1 q2)
          go_roundw
          case rel => exact ⟨k + 1, m + 1, cap2, some ⟨ga, 0, none⟩, _, y.drop en, by omega, by go_num, rfl, rfl, Lib.hid (by rw [Diff.edsCells_append]; exact hown2), HM2, by simp [hom], by have := HMK.out; omega, by first | exact hyd | exact hy, hb3⟩
          case measure => simp [intOf]; omega
        · obtain ⟨en, et, rfl⟩ : ∃ en et, e = ⟨2, en, et⟩ := ⟨e.n, e.text, by cases e; simp only [] at hw; subst hw; rfl⟩
          clear hz
          change wr.cell? _ = some (.int .i64 2) at c0
          change wr.cell? _ = some (.int .i64 (en : Nat)) at c1
          change wr.cell? _ = some (.string (bstr et)) at c2
          have hte : et.length ≤ 4000 := hte
          have hfit : en ≤ y.length := HM.out.fits HD.out
          have hfL : (en : Int) ≤ (y.length : Int) := by omega
          have hx1 := bstr_front y en
          have hx2 := bstr_rest y en
          have hyd : (y.drop en).length ≤ 4000 := by rw [List.length_drop]; omega
          have hkI : (k : Int) < (n : Int) := by omega
          have hrow := RowAt.new wr 99 #[.int .i64 2, .int .i64 (en : Nat), .string (bstr et)]
          have hrlt : wr.heap.size < (wr.alloc (.cells #[.int .i64 2, .int .i64 (en : Nat), .string (bstr et)] 99)).heap.size := by simp
          have ho1 := HO.out.alloc (.cells #[.int .i64 2, .int .i64 (en : Nat), .string (bstr et)] 99)
          have hb2 := hbe.alloc hbB (.cells #[.int .i64 2, .int .i64 (en : Nat), .string (bstr et)] 99)
          have hab := HO.out.blk_lt
          have hB1 : B ≤ (wr.alloc (.cells #[.int .i64 2, .int .i64 (en : Nat), .string (bstr et)] 99)).heap.size := by simp; omega
          have hml2 : m + 1 ≤ maxLen := by unfold maxLen; have := HMK.out; omega
          have hby : (m + 1) * 32 ≤ 140737488355328 := by have := HMK.out; omega
          have hWs : wr.heap.size + 1 = (wr.alloc (.cells #[.int .i64 2, .int .i64 (en : Nat), .string (bstr et)] 99)).heap.size := by simp
          have HWS := Lib.hid hWs; clear hWs
          have HM2 := Lib.hid (HM.out.take HD.out rfl)
          go_wp2_with (with_reducible refine wpList_pushAt _ _ HWS.out rfl _ _ 93 rfl B 99 (.agg #[.int .i64 0, .int .i64 0, .string ByteArray.empty]) 3 32 Try.underlying93 infoEd rfl (by decide) z m c _ rfl ho1 [.int .i64 3, .int .i64 0, .string (bstr (y.take en))] rfl (by simp [Value.oneCell']) rfl hml2 hby hB1 ?_; intro a2 cap2 w2 hown2 hgrow2 hloc2 hsz2 hex2; obtain ⟨ga, rfl⟩ := hex2; have hrow2 := hrow.of_heap (hgrow2.block _ hrlt (fun h => by cases z with | none => simp [blk] at h | some y => have := hab y rfl; simp [blk] at h; omega)); have hb3 := below_blk hb2 ho1 (Nat.le_refl _) hB1 hgrow2; have q0 := hrow2.cell0 0 (by simp); have q1 := hrow2.cell0 1 (by simp); have q2 := hrow2.cell0 2 (by simp); simp only [List.getElem_cons_succ, List.getElem_cons_zero] at q0 q1 q2)
          go_roundw
          case rel => exact ⟨k + 1, m + 1, cap2, some ⟨ga, 0, none⟩, _, y.drop en, by omega, by go_num, rfl, rfl, Lib.hid (by rw [Diff.edsCells_append]; exact hown2), HM2, by simp [hom], by have := HMK.out; omega, by first | exact hyd | exact hy, hb3⟩
          case measure => simp [intOf]; omega
        · obtain ⟨en, et, rfl⟩ : ∃ en et, e = ⟨3, en, et⟩ := ⟨e.n, e.text, by cases e; simp only [] at hw; subst hw; rfl⟩
          have hn0 : en = 0 := hz
          clear hz
          subst hn0
          change wr.cell? _ = some (.int .i64 3) at c0
          change wr.cell? _ = some (.int .i64 0) at c1
          change wr.cell? _ = some (.string (bstr et)) at c2
          have hte : et.length ≤ 4000 := hte
          have hfit : 0 ≤ y.length := HM.out.fits HD.out
          have hfL : (0 : Int) ≤ (y.length : Int) := by omega
          have hx1 := bstr_front y 0
          have hx2 := bstr_rest y 0
          have hyd : (y.drop 0).length ≤ 4000 := by rw [List.length_drop]; omega
          have hkI : (k : Int) < (n : Int) := by omega
          have hrow := RowAt.new wr 99 #[.int .i64 3, .int .i64 0, .string (bstr et)]
          have hrlt : wr.heap.size < (wr.alloc (.cells #[.int .i64 3, .int .i64 0, .string (bstr et)] 99)).heap.size := by simp
          have ho1 := HO.out.alloc (.cells #[.int .i64 3, .int .i64 0, .string (bstr et)] 99)
          have hb2 := hbe.alloc hbB (.cells #[.int .i64 3, .int .i64 0, .string (bstr et)] 99)
          have hab := HO.out.blk_lt
          have hB1 : B ≤ (wr.alloc (.cells #[.int .i64 3, .int .i64 0, .string (bstr et)] 99)).heap.size := by simp; omega
          have hml2 : m + 1 ≤ maxLen := by unfold maxLen; have := HMK.out; omega
          have hby : (m + 1) * 32 ≤ 140737488355328 := by have := HMK.out; omega
          have hWs : wr.heap.size + 1 = (wr.alloc (.cells #[.int .i64 3, .int .i64 0, .string (bstr et)] 99)).heap.size := by simp
          have HWS := Lib.hid hWs; clear hWs
          have HM2 := Lib.hid (HM.out.give HD.out rfl rfl)
          go_wp2_with (with_reducible refine wpList_pushAt _ _ HWS.out rfl _ _ 93 rfl B 99 (.agg #[.int .i64 0, .int .i64 0, .string ByteArray.empty]) 3 32 Try.underlying93 infoEd rfl (by decide) z m c _ rfl ho1 [.int .i64 2, .int .i64 (et.length : Nat), .string ⟨#[]⟩] rfl (by simp [Value.oneCell']) rfl hml2 hby hB1 ?_; intro a2 cap2 w2 hown2 hgrow2 hloc2 hsz2 hex2; obtain ⟨ga, rfl⟩ := hex2; have hrow2 := hrow.of_heap (hgrow2.block _ hrlt (fun h => by cases z with | none => simp [blk] at h | some y => have := hab y rfl; simp [blk] at h; omega)); have hb3 := below_blk hb2 ho1 (Nat.le_refl _) hB1 hgrow2; have q0 := hrow2.cell0 0 (by simp); have q1 := hrow2.cell0 1 (by simp); have q2 := hrow2.cell0 2 (by simp); simp only [List.getElem_cons_succ, List.getElem_cons_zero] at q0 q1 q2)
          go_roundw
          case rel => exact ⟨k + 1, m + 1, cap2, some ⟨ga, 0, none⟩, _, y, by omega, by go_num, rfl, rfl, Lib.hid (by rw [Diff.edsCells_append]; exact hown2), HM2, by simp [hom], by have := HMK.out; omega, by first | exact hyd | exact hy, hb3⟩
          case measure => simp [intOf]; omega
    · obtain rfl : k = n := by omega
      have hd : decide ((k : Int) < (k : Int)) = false := by simp
      have he := HM.out.eq
      rw [List.drop_eq_nil_of_le (by omega), Diff.backL, List.append_nil] at he
      have HE := Lib.hid he; clear he
      go_wp2_with fail
      go_ret2
      exact ⟨z, m, c, rfl, HMK.out, by rw [← HE.out]; exact HO.out, hbe⟩
end Go.Proofs.Ytmmkbjinkdgdbaa
