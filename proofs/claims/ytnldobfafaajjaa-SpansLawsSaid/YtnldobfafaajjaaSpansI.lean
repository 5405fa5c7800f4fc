/- Contracts: slices.Grow of nothing and slices.Concat of two, at spans; spans.Or. -/
import Derived.Test.YtnldobfafaajjaaSpansE
import Derived.Test.YtnldobfafaajjaaAppendR
import Derived.Test.YtnldobfafaajjaaPlainSpans4
import Derived.Lib.AppendZerosOnto
import Derived.Lib.Walk
import Derived.Lib.SliceRun
namespace Go.Proofs.Ytnldobfafaajjaa
open Go.RowKit
set_option linter.unusedVariables false
set_option linter.unusedSimpArgs false
theorem zeroCells_len (z : Array Value) (n : Nat) : (Builtin.zeroCells z n).size = n * z.size := by simp [Builtin.zeroCells]
set_option maxRecDepth 100000 in
set_option maxHeartbeats 1000000 in
theorem Grow_sp (n : Nat) (w : World) (hn : n ≤ 200000) :
    Calls Try.prog 54 #[.slice none 0 0, .int .i64 n] w fun e w' => ∃ a c, e = .returned (.slice a 0 c) ∧ Owns w' w.heap.size 37 2 a 0 c [] ∧ Below w.heap.size w w' := by
  rcases Nat.eq_zero_or_pos n with rfl | hpos
  · go_enter Try.func54, Try.ntmps54
    go_wp2_with fail
    go_ret
    exact ⟨none, 0, rfl, Owns.nil _ _ _ _, Below.refl _ _⟩
  · obtain ⟨i0, hi, hz0, hz1, hz2⟩ := info_parts infoSp
    have hold : (Builtin.firstCells i0.size 0 (.slice none 0 0)).run Try.prog w.drew = .ok (([] : List Value).toArray) w.drew := run_firstCells_none (P := Try.prog) w.drew i0.size 0 0 0
    have hrz : ∀ ty, (Builtin.append_ #[32, 3] ty #[.slice none 0 0, .int .i64 (n : Int)]).run Try.prog w = .ok (.slice (some ⟨w.heap.size, 0, none⟩) n (grownCap w n 0 37)) (w.drew.alloc (.cells (([] : List Value).toArray ++ Builtin.zeroCells (Value.agg #[.int .i64 0, .int .i64 0]).cells n ++ Builtin.zeroCells (Value.agg #[.int .i64 0, .int .i64 0]).cells (grownCap w n 0 37 - n)) 37)) := fun ty => by
      have h := Lib.run_append_grow_zeros w 32 3 ty 37 i0 _ .i64 .i64 Try.underlying32 Try.underlying3 hi hz0 none 0 0 [] hold n hpos (by rw [hz1]; decide) (by omega) (by omega) (by rw [hz2]; omega)
        (growslice_fits (by omega) (by rw [hz2]; omega))
      rw [Nat.zero_add] at h
      exact h
    have hge := grownCap_ge w n 0 37
    have hle := grownCap_le_maxLen w n 0 37 (by unfold maxLen; omega)
    obtain ⟨G, hG⟩ : ∃ G, G = grownCap w n 0 37 := ⟨_, rfl⟩
    rw [← hG] at hrz hge hle
    have hown : Owns (w.drew.alloc (.cells (([] : List Value).toArray ++ Builtin.zeroCells (Value.agg #[.int .i64 0, .int .i64 0]).cells n ++ Builtin.zeroCells (Value.agg #[.int .i64 0, .int .i64 0]).cells (G - n)) 37)) w.heap.size 37 2 (some ⟨w.heap.size, 0, none⟩) 0 G [] := by
      refine Owns.of_row (by simp) _ w.heap.size _ (Nat.le_refl _) (heap_alloc_new w.drew _) ?_ (Nat.zero_le _) hle (by simp)
      have hz : (Value.agg #[.int .i64 0, .int .i64 0]).cells.size = 2 := rfl
      simp only [Array.size_append, zeroCells_len, hz, List.size_toArray, List.length_nil]
      omega
    have hb : Below w.heap.size w (w.drew.alloc (.cells (([] : List Value).toArray ++ Builtin.zeroCells (Value.agg #[.int .i64 0, .int .i64 0]).cells n ++ Builtin.zeroCells (Value.agg #[.int .i64 0, .int .i64 0]).cells (G - n)) 37)) := (Below.refl _ w).drew.alloc (Nat.le_refl _) _
    have hG63 : G ≤ 9223372036854775807 := by unfold maxLen at hle; omega
    clear hold hge hle hG
    generalize w.drew.alloc (.cells (([] : List Value).toArray ++ Builtin.zeroCells (Value.agg #[.int .i64 0, .int .i64 0]).cells n ++ Builtin.zeroCells (Value.agg #[.int .i64 0, .int .i64 0]).cells (G - n)) 37) = w1 at *
    have HO := Lib.hid hown; clear hown
    have HB := Lib.hid hb; clear hb
    have hnI : (0 : Int) < (n : Int) := by omega
    go_enter Try.func54, Try.ntmps54
    go_wp2_with (at_builtin; refine Lib.wpList_append_run _ rfl _ _ _ _ rfl _ _ rfl rfl _ _ (hrz _) ?_)
    go_ret
    exact ⟨_, _, rfl, HO.out, HB.out⟩
theorem ReadsSp.readsC {w : World} {B : Nat} {a : Option Addr} {n cap : Nat} {l : List Spans.Sp} (h : ReadsSp w B a n cap l) (hn : a = none → cap = 0) : ReadsC w a n cap 2 (spCells l) := by
  obtain ⟨h1, h2, h3⟩ := h
  refine ⟨by rw [spCells_length, h1], ?_, fun ha => ⟨by have := hn ha; omega, hn ha⟩, ?_⟩
  · intro u hu
    obtain ⟨x, _, hx⟩ := List.mem_flatMap.mp hu
    simp only [spCell, List.mem_cons, List.not_mem_nil, or_false] at hx
    rcases hx with rfl | rfl <;> rfl
  · intro y hy j u hj
    have hlt : j < (spCells l).length := by
      rcases Nat.lt_or_ge j (spCells l).length with h | h
      · exact h
      · rw [List.getElem?_eq_none h] at hj; cases hj
    rw [spCells_length] at hlt
    obtain ⟨g, off, ha, _, c0, c1⟩ := h3 (j / 2) (by omega)
    rw [ha] at hy
    cases hy
    rw [spCells_get l j hlt] at hj
    rw [Go.WideShapes.add_plain]
    rcases (by omega : j % 2 = 0 ∨ j % 2 = 1) with hm | hm
    · rw [hm] at hj
      have e : off + j / 2 * 2 = off + j := by omega
      rw [e] at c0
      rw [c0]; simpa [spCell] using hj
    · rw [hm] at hj
      have e : off + j / 2 * 2 + 1 = off + j := by omega
      rw [e] at c1
      rw [c1]; simpa [spCell] using hj
/-- a slice of spans, as it stands in a row of slices -/
structure SlSp where
  a : Option Addr
  n : Nat
  c : Nat
  l : List Spans.Sp
def SlSp.val (s : SlSp) : Value := .slice s.a s.n s.c
def SlSp.ok (w : World) (B : Nat) (s : SlSp) : Prop := ReadsSp w B s.a s.n s.c s.l ∧ (s.a = none → s.c = 0)
def slTot (L : List SlSp) : Nat := (L.map SlSp.n).sum
def slCat (L : List SlSp) : List Spans.Sp := L.flatMap SlSp.l
theorem slTot_take (L : List SlSp) (k : Nat) (h : k < L.length) : slTot (L.take (k + 1)) = slTot (L.take k) + (L[k]).n := by
  unfold slTot; rw [List.take_succ_eq_append_getElem h, List.map_append, List.sum_append]; simp
theorem slCat_take (L : List SlSp) (k : Nat) (h : k < L.length) : slCat (L.take (k + 1)) = slCat (L.take k) ++ (L[k]).l := by
  unfold slCat; rw [List.take_succ_eq_append_getElem h, List.flatMap_append]; simp
theorem slTot_le (L : List SlSp) (k : Nat) : slTot (L.take k) ≤ slTot L := by
  conv => rhs; rw [← List.take_append_drop k L]
  simp only [slTot, List.map_append, List.sum_append]; omega
set_option maxRecDepth 100000 in
set_option maxHeartbeats 2000000 in
theorem Concat_sp (g q : Nat) (L : List SlSp) (w : World) (hq : L.length = q) (hq2 : q ≤ 1000) (hg : RowAt w g 0 32 (L.map SlSp.val)) (hL : ∀ s ∈ L, s.ok w w.heap.size) (hT : slTot L ≤ 100000) :
    Calls Try.prog 40 #[.slice (some ⟨g, 0, none⟩) q q] w fun e w' => ∃ a n c', e = .returned (.slice a n c') ∧ n = slTot L ∧ Owns w' w.heap.size 37 2 a n c' (spCells (slCat L)) ∧ Below w.heap.size w w' := by
  obtain ⟨B, hB⟩ : ∃ B, B = w.heap.size := ⟨_, rfl⟩
  have hgl : g < B := hB ▸ hg.lt
  have hcell : ∀ (k : Nat) (w' : World), k < q → Below B w w' → ∃ s : SlSp, w'.cell? ⟨g, k, none⟩ = some (.slice s.a s.n s.c) ∧ s.ok w' B ∧ slTot (L.take (k + 1)) = slTot (L.take k) + s.n ∧ slCat (L.take (k + 1)) = slCat (L.take k) ++ s.l ∧ slTot (L.take (k + 1)) ≤ 100000 := by
    intro k w' hk hb
    have hk2 : k < L.length := by omega
    have hc := hg.cell0 k (by rw [List.length_map]; exact hk2)
    rw [List.getElem_map] at hc
    have hs := hL L[k] (List.getElem_mem _)
    refine ⟨L[k], (hb.cell (p := ⟨g, k, none⟩) hgl).trans hc, ⟨(hB ▸ hs.1).below hb, hs.2⟩, slTot_take L k hk2, slCat_take L k hk2, Nat.le_trans (slTot_le L _) hT⟩
  have hend : slTot (L.take q) = slTot L ∧ slCat (L.take q) = slCat L := by rw [← hq, List.take_length]; exact ⟨rfl, rfl⟩
  rw [← hB]
  have HB := Lib.hid hB; clear hB
  have HC := Lib.hid hcell; clear hcell
  have HE := Lib.hid hend; clear hend
  have HT := Lib.hid hT; clear hT hL hg hq
  go_enter Try.func40, Try.ntmps40
  go_wp2_with fail
  go_loopw [3, 11] (fun v3 v11 wr => ∃ (k t : Nat), k ≤ q ∧ v11 = .int .i64 k ∧ v3 = .int .i64 t ∧ Hid (t = slTot (L.take k)) ∧ Hid (wr = w)) (fun _ v11 _ => q - (intOf v11).toNat)
  case atStart => exact ⟨0, 0, by omega, rfl, rfl, Lib.hid rfl, Lib.hid rfl⟩
  case round =>
    obtain ⟨k, t, hk, rfl, rfl, HK, HW⟩ := hrel
    obtain rfl := HW.out
    by_cases hkq : k < q
    · obtain ⟨s, hc, _, ht1, _, ht2⟩ := HC.out k wr hkq (Below.refl _ _)
      obtain ⟨sa, sn, sc, sl⟩ := s
      simp only [] at hc ht1
      rw [← HK.out] at ht1
      rw [ht1] at ht2
      have e1 : wrap64 ((t : Int) + (sn : Int)) = ((t + sn : Nat) : Int) := by rw [wrap64]; omega
      have e2 : decide (((t + sn : Nat) : Int) < 0) = false := by rw [decide_eq_false_iff_not]; omega
      have hT1 := Lib.hid ht1.symm; clear ht1 ht2
      have hkI : (k : Int) < (q : Int) := by omega
      go_wp2_with fail
      go_roundw
      case rel => exact ⟨k + 1, t + sn, by omega, by go_num, by first | rfl | (rw [e1]), hT1, by first | exact Lib.hid rfl | exact Lib.hid trivial⟩
      case measure => simp [intOf]; omega
    · obtain rfl : k = q := by omega
      have hd : decide ((k : Int) < (k : Int)) = false := by simp
      rw [HE.out.1] at HK
      have ht : t ≤ 100000 := by have := HK.out; have := HT.out; omega
      go_wp2_with fail
      refine (Grow_sp t wr (by omega)).mono ?_
      rintro e w1 ⟨a0, c0, rfl, hown0, hb0⟩
      rw [← HB.out] at hown0 hb0
      have HO0 := Lib.hid hown0; clear hown0
      go_wp2_with fail
      go_loopw [6, 27] (fun v6 v27 w2 => ∃ (j m c : Nat) (a : Option Addr), j ≤ k ∧ v27 = .int .i64 j ∧ v6 = .slice a m c ∧ Hid (m = slTot (L.take j)) ∧ Hid (Owns w2 B 37 2 a m c (spCells (slCat (L.take j)))) ∧ Below B wr w2) (fun _ v27 _ => k - (intOf v27).toNat)
      case atStart => exact ⟨0, 0, c0, a0, by omega, rfl, rfl, Lib.hid rfl, HO0, hb0⟩
      case round =>
        obtain ⟨j, m, c, a, hj, rfl, rfl, HM, HO, hbe⟩ := hrel
        by_cases hjk : j < k
        · obtain ⟨s, hc, hok, ht1, hcat, ht2⟩ := HC.out j _ hjk hbe
          obtain ⟨sa, sn, sc, sl⟩ := s
          simp only [] at hc ht1 hcat
          rw [← HM.out] at ht1
          rw [ht1] at ht2
          have hT1 := Lib.hid ht1.symm; clear ht1
          have hrc := ReadsSp.readsC hok.1 hok.2
          simp only [] at hrc
          have b1 : m + sn ≤ maxLen := by unfold maxLen; omega
          have b2 : (m + sn) * 16 ≤ 140737488355328 := by omega
          have b3 := hbe.size
          have b4 := HB.out
          have b5 : B ≤ wr.heap.size := by omega
          have hkI : (j : Int) < (k : Int) := by omega
          have HCT := Lib.hid hcat; clear hcat hok ht2 b3 b4
          have ho := HO.out
          go_wp2_with (with_reducible refine wpList_appendR _ rfl _ _ 32 rfl B 37 (.agg #[.int .i64 0, .int .i64 0]) 2 16 Try.underlying32 infoSp rfl (by decide) a m c _ rfl ho sa sn sc _ rfl hrc b1 b2 b5 ?_; intro a3 cap3 w3 hown3 hgrow3 hbel3 hloc3)
          go_roundw
          case rel => exact ⟨j + 1, m + sn, cap3, a3, by omega, by go_num, rfl, hT1, Lib.hid (by rw [HCT.out, spCells_append]; exact hown3), hbe.trans hbel3⟩
          case measure => simp [intOf]; omega
        · obtain rfl : j = k := by omega
          have hd : decide ((j : Int) < (j : Int)) = false := by simp
          have ho := HO.out
          rw [HE.out.2] at ho
          have hm := HM.out
          rw [HE.out.1] at hm
          have HO2 := Lib.hid ho; have HM2 := Lib.hid hm
          clear ho hm HO HM HE
          go_wp2_with fail
          go_ret
          exact ⟨a, m, c, rfl, HM2.out, HO2.out, hbe⟩
set_option maxRecDepth 100000 in
theorem Or_any (x z : Option Addr) (n c n' c' : Nat) (l g : List Spans.Sp) (w : World) (hl : ReadsSp w w.heap.size x n c l) (hg : ReadsSp w w.heap.size z n' c' g) (hx : x = none → c = 0) (hz : z = none → c' = 0) (hn : n ≤ 50000) (hn' : n' ≤ 50000) :
    Calls Try.prog 22 #[.slice x n c, .slice z n' c'] w fun r w' => ∃ a m c ml, r = .returned (.slice a m c) ∧ ml.length = m ∧ m ≤ n + n' ∧ Spans.Norm (l ++ g) ml ∧ Owns w' w.heap.size 37 2 a m c (spCells ml) ∧ Below w.heap.size w w' := by
  have hrow := RowAt.new w 32 #[.slice x n c, .slice z n' c']
  have hb := (Below.refl w.heap.size w).alloc (Nat.le_refl _) (.cells #[.slice x n c, .slice z n' c'] 32)
  have hT : slTot [⟨x, n, c, l⟩, ⟨z, n', c', g⟩] = n + n' := by simp [slTot]
  have hC : slCat [⟨x, n, c, l⟩, ⟨z, n', c', g⟩] = l ++ g := by simp [slCat]
  have hcc := Concat_sp w.heap.size 2 [⟨x, n, c, l⟩, ⟨z, n', c', g⟩] _ rfl (by decide) hrow (by
    intro s hs
    simp only [List.mem_cons, List.not_mem_nil, or_false] at hs
    rcases hs with rfl | rfl
    · exact ⟨(hl.below hb).up hb.size, hx⟩
    · exact ⟨(hg.below hb).up hb.size, hz⟩) (by rw [hT]; omega)
  rw [hC] at hcc
  have hlen : (l ++ g).length = n + n' := by rw [List.length_append, hl.1, hg.1]
  have HT := Lib.hid hT; have HLEN := Lib.hid hlen
  have HCC := Lib.hid hcc
  have HB := Lib.hid hb
  clear hcc hT hlen hC hrow hb
  go_enter Try.func22, Try.ntmps22
  go_wp2_with fail
  refine HCC.out.mono ?_
  rintro e w1 ⟨a, m, c1, rfl, hm, hown, hb1⟩
  have hm2 : m = n + n' := hm.trans HT.out
  have hrd := hown.reads (HLEN.out.trans hm2.symm)
  have hof := Of_any a m c1 (l ++ g) w1 hrd (by omega)
  have hbb := HB.out.trans (hb1.mono HB.out.size)
  have HM := Lib.hid hm2
  have HOF := Lib.hid hof; have HBB := Lib.hid hbb
  clear hof hbb hown hrd hm hm2
  go_wp2_with fail
  refine HOF.out.mono ?_
  rintro e w2 ⟨a2, m2, c2, ml, rfl, h1, h2, h3, h4, h5⟩
  go_wp2_with fail
  go_ret
  exact ⟨a2, m2, c2, ml, rfl, h1, by have := HM.out; omega, h3, h4.mono HBB.out.size, HBB.out.trans (h5.mono HBB.out.size)⟩
end Go.Proofs.Ytnldobfafaajjaa
