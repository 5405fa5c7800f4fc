/- Contracts: slices.Grow of nothing and slices.Concat, at numbers. -/
import Derived.Test.YtenhblpegobbjaaChecked
import Derived.Test.YtenhblpegobbjaaRdI
import Derived.Test.YtenhblpegobbjaaAppendR
import Derived.Lib.AppendZerosOnto
import Derived.Lib.Walk
import Derived.Lib.SliceRun
namespace Go.Proofs.Ytenhblpegobbjaa
open Go.RowKit
set_option linter.unusedVariables false
set_option linter.unusedSimpArgs false
theorem infoI64 : (Try.prog.info? 3).map (fun i => (i.zero, i.size, i.bytes)) = some (some (.int .i64 0), 1, 8) := by kernel_rfl
theorem ivals_app (L M : List Int) : ivals L ++ ivals M = ivals (L ++ M) := by simp [ivals]
theorem RdI.readsC {w : World} {a : Option Addr} {n c : Nat} {L : List Int} (h : RdI w a L) (hl : L.length = n) (hn : a = none → c = 0) : ReadsC w a n c 1 (ivals L) := by
  refine ⟨by rw [ivals_length, hl, Nat.mul_one], fun u hu => ?_, fun ha => ⟨?_, hn ha⟩, fun y hy j u hj => ?_⟩
  · obtain ⟨x, _, rfl⟩ := List.mem_map.1 hu; rfl
  · rcases Nat.eq_zero_or_pos n with h0 | h0
    · exact h0
    · obtain ⟨x, hx, _⟩ := h 0 (by omega)
      rw [ha] at hx; cases hx
  · have hlt : j < L.length := by
      rcases Nat.lt_or_ge j L.length with h | h
      · exact h
      · rw [List.getElem?_eq_none (by rw [ivals_length]; exact h)] at hj; cases hj
    obtain ⟨x, hx, _, hc⟩ := h j hlt
    rw [hy] at hx
    cases hx
    rw [hc, ← hj, List.getElem?_eq_getElem (by rw [ivals_length]; exact hlt), ivals_get]
theorem zeroCells_len (z : Array Value) (n : Nat) : (Builtin.zeroCells z n).size = n * z.size := by simp [Builtin.zeroCells]
set_option maxRecDepth 100000 in
set_option maxHeartbeats 1000000 in
theorem Grow_i (n : Nat) (w : World) (hn : n ≤ 200000) :
    Calls Try.prog 106 #[.slice none 0 0, .int .i64 n] w fun e w' => ∃ a c, e = .returned (.slice a 0 c) ∧ Owns w' w.heap.size 3 1 a 0 c [] ∧ Below w.heap.size w w' := by
  rcases Nat.eq_zero_or_pos n with rfl | hpos
  · go_enter Try.func106, Try.ntmps106
    go_wp2_with fail
    go_ret
    exact ⟨none, 0, rfl, Owns.nil _ _ _ _, Below.refl _ _⟩
  · obtain ⟨i0, hi, hz0, hz1, hz2⟩ := info_parts infoI64
    have hold : (Builtin.firstCells i0.size 0 (.slice none 0 0)).run Try.prog w.drew = .ok (([] : List Value).toArray) w.drew := run_firstCells_none (P := Try.prog) w.drew i0.size 0 0 0
    have hrz : ∀ ty, (Builtin.append_ #[34, 3] ty #[.slice none 0 0, .int .i64 (n : Int)]).run Try.prog w = .ok (.slice (some ⟨w.heap.size, 0, none⟩) n (grownCap w n 0 3)) (w.drew.alloc (.cells (([] : List Value).toArray ++ Builtin.zeroCells (Value.int .i64 0).cells n ++ Builtin.zeroCells (Value.int .i64 0).cells (grownCap w n 0 3 - n)) 3)) := fun ty => by
      have h := Lib.run_append_grow_zeros w 34 3 ty 3 i0 _ .i64 .i64 Try.underlying34 Try.underlying3 hi hz0 none 0 0 [] hold n hpos (by rw [hz1]; decide) (by omega) (by omega) (by rw [hz2]; omega)
        (growslice_fits (by omega) (by rw [hz2]; omega))
      rw [Nat.zero_add] at h
      exact h
    have hge := grownCap_ge w n 0 3
    have hle := grownCap_le_maxLen w n 0 3 (by unfold maxLen; omega)
    obtain ⟨G, hG⟩ : ∃ G, G = grownCap w n 0 3 := ⟨_, rfl⟩
    rw [← hG] at hrz hge hle
    have hown : Owns (w.drew.alloc (.cells (([] : List Value).toArray ++ Builtin.zeroCells (Value.int .i64 0).cells n ++ Builtin.zeroCells (Value.int .i64 0).cells (G - n)) 3)) w.heap.size 3 1 (some ⟨w.heap.size, 0, none⟩) 0 G [] := by
      refine Owns.of_row (by simp) _ w.heap.size _ (Nat.le_refl _) (heap_alloc_new w.drew _) ?_ (Nat.zero_le _) hle (by simp)
      have hz : (Value.int .i64 0).cells.size = 1 := rfl
      simp only [Array.size_append, zeroCells_len, hz, List.size_toArray, List.length_nil]
      omega
    have hb : Below w.heap.size w (w.drew.alloc (.cells (([] : List Value).toArray ++ Builtin.zeroCells (Value.int .i64 0).cells n ++ Builtin.zeroCells (Value.int .i64 0).cells (G - n)) 3)) := (Below.refl _ w).drew.alloc (Nat.le_refl _) _
    have hG63 : G ≤ 9223372036854775807 := by unfold maxLen at hle; omega
    clear hold hge hle hG
    generalize w.drew.alloc (.cells (([] : List Value).toArray ++ Builtin.zeroCells (Value.int .i64 0).cells n ++ Builtin.zeroCells (Value.int .i64 0).cells (G - n)) 3) = w1 at *
    have HO := Lib.hid hown; clear hown
    have HB := Lib.hid hb; clear hb
    have hnI : (0 : Int) < (n : Int) := by omega
    go_enter Try.func106, Try.ntmps106
    go_wp2_with (at_builtin; refine Lib.wpList_append_run _ rfl _ _ _ _ rfl _ _ rfl rfl _ _ (hrz _) ?_)
    go_ret
    exact ⟨_, _, rfl, HO.out, HB.out⟩
/-- a slice of spans, as it stands in a row of slices -/
structure SlI where
  a : Option Addr
  n : Nat
  c : Nat
  l : List Int
def SlI.val (s : SlI) : Value := .slice s.a s.n s.c
def SlI.ok (w : World) (B : Nat) (s : SlI) : Prop := RdB w B s.a s.l ∧ s.l.length = s.n ∧ (s.a = none → s.c = 0)
def sliTot (L : List SlI) : Nat := (L.map SlI.n).sum
def sliCat (L : List SlI) : List Int := L.flatMap SlI.l
theorem sliTot_take (L : List SlI) (k : Nat) (h : k < L.length) : sliTot (L.take (k + 1)) = sliTot (L.take k) + (L[k]).n := by
  unfold sliTot; rw [List.take_succ_eq_append_getElem h, List.map_append, List.sum_append]; simp
theorem sliCat_take (L : List SlI) (k : Nat) (h : k < L.length) : sliCat (L.take (k + 1)) = sliCat (L.take k) ++ (L[k]).l := by
  unfold sliCat; rw [List.take_succ_eq_append_getElem h, List.flatMap_append]; simp
theorem sliTot_le (L : List SlI) (k : Nat) : sliTot (L.take k) ≤ sliTot L := by
  conv => rhs; rw [← List.take_append_drop k L]
  simp only [sliTot, List.map_append, List.sum_append]; omega
set_option maxRecDepth 100000 in
set_option maxHeartbeats 2000000 in
theorem Concat_i (g q : Nat) (L : List SlI) (w : World) (hq : L.length = q) (hq2 : q ≤ 1000) (hg : RowAt w g 0 34 (L.map SlI.val)) (hL : ∀ s ∈ L, s.ok w w.heap.size) (hT : sliTot L ≤ 100000) :
    Calls Try.prog 78 #[.slice (some ⟨g, 0, none⟩) q q] w fun e w' => ∃ a n c', e = .returned (.slice a n c') ∧ n = sliTot L ∧ Owns w' w.heap.size 3 1 a n c' (ivals (sliCat L)) ∧ Below w.heap.size w w' := by
  obtain ⟨B, hB⟩ : ∃ B, B = w.heap.size := ⟨_, rfl⟩
  have hgl : g < B := hB ▸ hg.lt
  have hcell : ∀ (k : Nat) (w' : World), k < q → Below B w w' → ∃ s : SlI, w'.cell? ⟨g, k, none⟩ = some (.slice s.a s.n s.c) ∧ s.ok w' B ∧ sliTot (L.take (k + 1)) = sliTot (L.take k) + s.n ∧ sliCat (L.take (k + 1)) = sliCat (L.take k) ++ s.l ∧ sliTot (L.take (k + 1)) ≤ 100000 := by
    intro k w' hk hb
    have hk2 : k < L.length := by omega
    have hc := hg.cell0 k (by rw [List.length_map]; exact hk2)
    rw [List.getElem_map] at hc
    have hs := hL L[k] (List.getElem_mem _)
    refine ⟨L[k], (hb.cell (p := ⟨g, k, none⟩) hgl).trans hc, ⟨(hB ▸ hs.1 : RdB w B _ _).below hb, hs.2⟩, sliTot_take L k hk2, sliCat_take L k hk2, Nat.le_trans (sliTot_le L _) hT⟩
  have hend : sliTot (L.take q) = sliTot L ∧ sliCat (L.take q) = sliCat L := by rw [← hq, List.take_length]; exact ⟨rfl, rfl⟩
  rw [← hB]
  have HB := Lib.hid hB; clear hB
  have HC := Lib.hid hcell; clear hcell
  have HE := Lib.hid hend; clear hend
  have HT := Lib.hid hT; clear hT hL hg hq
  go_enter Try.func78, Try.ntmps78
  go_wp2_with fail
  go_loopw [3, 11] (fun v3 v11 wr => ∃ (k t : Nat), k ≤ q ∧ v11 = .int .i64 k ∧ v3 = .int .i64 t ∧ Hid (t = sliTot (L.take k)) ∧ Hid (wr = w)) (fun _ v11 _ => q - (intOf v11).toNat)
  case atStart => exact ⟨0, 0, by omega, rfl, rfl, Lib.hid rfl, Lib.hid rfl⟩
  case round =>
    obtain ⟨k, t, hk, rfl, rfl, HK, HW⟩ := hrel
    obtain rfl := HW.out
    by_cases hkq : k < q
    · obtain ⟨s, hc, _, ht1, _, ht2⟩ := HC.out k wr hkq (Below.refl _ _)
      obtain ⟨sa, sn, sc, sl⟩ := s
      simp only [] at hc ht1
      rw [← HK.out] at ht1
      rw [ht1] at ht2
      have e1 : wrap64 ((t : Int) + (sn : Int)) = ((t + sn : Nat) : Int) := by rw [wrap64]; omega
      have e2 : decide (((t + sn : Nat) : Int) < 0) = false := by rw [decide_eq_false_iff_not]; omega
      have hT1 := Lib.hid ht1.symm; clear ht1 ht2
      have hkI : (k : Int) < (q : Int) := by omega
      go_wp2_with fail
      go_roundw
      case rel => exact ⟨k + 1, t + sn, by omega, by go_num, by first | rfl | (rw [e1]), hT1, by first | exact Lib.hid rfl | exact Lib.hid trivial⟩
      case measure => simp [intOf]; omega
    · obtain rfl : k = q := by omega
      have hd : decide ((k : Int) < (k : Int)) = false := by simp
      rw [HE.out.1] at HK
      have ht : t ≤ 100000 := by have := HK.out; have := HT.out; omega
      go_wp2_with fail
      refine (Grow_i t wr (by omega)).mono ?_
      rintro e w1 ⟨a0, c0, rfl, hown0, hb0⟩
      rw [← HB.out] at hown0 hb0
      have HO0 := Lib.hid hown0; clear hown0
      go_wp2_with fail
      go_loopw [6, 27] (fun v6 v27 w2 => ∃ (j m c : Nat) (a : Option Addr), j ≤ k ∧ v27 = .int .i64 j ∧ v6 = .slice a m c ∧ Hid (m = sliTot (L.take j)) ∧ Hid (Owns w2 B 3 1 a m c (ivals (sliCat (L.take j)))) ∧ Below B wr w2) (fun _ v27 _ => k - (intOf v27).toNat)
      case atStart => exact ⟨0, 0, c0, a0, by omega, rfl, rfl, Lib.hid rfl, HO0, hb0⟩
      case round =>
        obtain ⟨j, m, c, a, hj, rfl, rfl, HM, HO, hbe⟩ := hrel
        by_cases hjk : j < k
        · obtain ⟨s, hc, hok, ht1, hcat, ht2⟩ := HC.out j _ hjk hbe
          obtain ⟨sa, sn, sc, sl⟩ := s
          simp only [] at hc ht1 hcat
          rw [← HM.out] at ht1
          rw [ht1] at ht2
          have hT1 := Lib.hid ht1.symm; clear ht1
          have hrc := RdI.readsC hok.1.1 hok.2.1 hok.2.2
          simp only [] at hrc
          have b1 : m + sn ≤ maxLen := by unfold maxLen; omega
          have b2 : (m + sn) * 8 ≤ 140737488355328 := by omega
          have b3 := hbe.size
          have b4 := HB.out
          have b5 : B ≤ wr.heap.size := by omega
          have hkI : (j : Int) < (k : Int) := by omega
          have HCT := Lib.hid hcat; clear hcat hok ht2 b3 b4
          have ho := HO.out
          go_wp2_with (with_reducible refine wpList_appendR _ rfl _ _ 34 rfl B 3 (.int .i64 0) 1 8 Try.underlying34 infoI64 rfl (by decide) a m c _ rfl ho sa sn sc _ rfl hrc b1 b2 b5 ?_; intro a3 cap3 w3 hown3 hgrow3 hbel3 hloc3)
          go_roundw
          case rel => exact ⟨j + 1, m + sn, cap3, a3, by omega, by go_num, rfl, hT1, Lib.hid (by rw [HCT.out, ← ivals_app]; exact hown3), hbe.trans hbel3⟩
          case measure => simp [intOf]; omega
        · obtain rfl : j = k := by omega
          have hd : decide ((j : Int) < (j : Int)) = false := by simp
          have ho := HO.out
          rw [HE.out.2] at ho
          have hm := HM.out
          rw [HE.out.1] at hm
          have HO2 := Lib.hid ho; have HM2 := Lib.hid hm
          clear ho hm HO HM HE
          go_wp2_with fail
          go_ret
          exact ⟨a, m, c, rfl, HM2.out, HO2.out, hbe⟩
end Go.Proofs.Ytenhblpegobbjaa
