/- Contract of suffix.Parts; the fact sorted. -/
import Derived.Test.YtenhblpegobbjaaSufE
import Derived.Test.YtenhblpegobbjaaSlEqual
namespace Go.Proofs.Ytenhblpegobbjaa
open Go.RowKit
set_option linter.unusedVariables false
set_option linter.unusedSimpArgs false
open Suf
namespace Suf
theorem lcp_le {l : List UInt8} {i j m : Nat} (h : IsLcp l i j m) : m ≤ l.length := by
  rcases Nat.eq_zero_or_pos m with h0 | h0
  · omega
  · have := (h.1 (m - 1) (by omega)).1
    omega
theorem commons_small {l : List UInt8} {A C : List Nat} (h : Commons l A C) (x : Nat) : C.getD x 0 ≤ l.length := by
  by_cases hx : x < C.length
  · cases x with
    | zero => rw [h.2.1]; omega
    | succ x => exact lcp_le (h.2.2 x (by rw [← h.1]; exact hx))
  · rw [List.getD_eq_getElem?_getD, List.getElem?_eq_none (by omega)]; simp
theorem take_sum (C : List Nat) (x : Nat) (h : x < C.length) : (C.take (x + 1)).sum = (C.take x).sum + C.getD x 0 := by
  rw [List.take_succ_eq_append_getElem h, List.sum_append, List.getD_eq_getElem?_getD, List.getElem?_eq_getElem h]
  simp
theorem sum_small (C : List Nat) (n : Nat) (h : ∀ x, C.getD x 0 ≤ n) : ∀ x, x ≤ C.length → (C.take x).sum ≤ x * n := by
  intro x
  induction x with
  | zero => intro _; simp
  | succ x ih =>
    intro hx
    rw [take_sum C x (by omega), Nat.add_mul, Nat.one_mul]
    have h1 := ih (by omega)
    have h2 := h x
    omega
instance (l : List UInt8) (i j m : Nat) : Decidable (IsLcp l i j m) := by unfold IsLcp; exact inferInstance
def banana : List UInt8 := [98, 97, 110, 97, 110, 97]
theorem banana_sorted : Sorted banana [5, 3, 1, 0, 4, 2] := by
  refine ⟨by decide, 6, fun x y hxy hy => ?_⟩
  have h : ∀ y : Fin 6, ∀ x : Fin 6, x.val < y.val → fm banana 6 ([5, 3, 1, 0, 4, 2].getD x.val 0) < fm banana 6 ([5, 3, 1, 0, 4, 2].getD y.val 0) := by decide +kernel
  have hy' : y < 6 := hy
  exact h ⟨y, hy'⟩ ⟨x, by omega⟩ hxy
theorem banana_commons : Commons banana [5, 3, 1, 0, 4, 2] [0, 1, 3, 0, 0, 2] := by
  refine ⟨rfl, rfl, fun x hx => ?_⟩
  have h : ∀ x : Fin 5, IsLcp banana ([5, 3, 1, 0, 4, 2].getD (x.val + 1) 0) ([5, 3, 1, 0, 4, 2].getD x.val 0) ([0, 1, 3, 0, 0, 2].getD (x.val + 1) 0) := by decide +kernel
  have hx' : x + 1 < 6 := hx
  exact h ⟨x, by omega⟩
end Suf
set_option maxRecDepth 100000 in
set_option maxHeartbeats 2000000 in
theorem Parts_any (HC : CmpIs) (l : List UInt8) (w : World) (h4 : l.length ≤ 4000) :
    Calls Try.prog 43 #[.string (bstr l)] w fun e w' => ∃ A C, e = .returned (.tuple #[.int .i64 (((l.length * (l.length + 1) / 2 : Nat) : Int) - ((C.sum : Nat) : Int)), .nilIface]) ∧ Sorted l A ∧ Commons l A C ∧ Below w.heap.size w w' := by
  have hnn : l.length * (l.length + 1) ≤ 4000 * 4001 := Nat.mul_le_mul h4 (by omega)
  obtain ⟨N, hN⟩ : ∃ N, N = l.length * (l.length + 1) / 2 := ⟨_, rfl⟩
  have hNl : N ≤ 8002000 := by omega
  have hw : wrap64 ((wrap64 ((l.length : Int) * ((l.length : Int) + 1))).tdiv 2) = (N : Int) := by
    have h1 : (l.length : Int) * ((l.length : Int) + 1) = ((l.length * (l.length + 1) : Nat) : Int) := by simp
    rw [h1]
    generalize l.length * (l.length + 1) = P at *
    rw [IntWalk.wrap64_in (P : Int) ⟨by omega, by omega⟩, Int.tdiv_eq_ediv_of_nonneg (by omega)]
    have h2 : (P : Int) / 2 = (N : Int) := by rw [hN]; omega
    rw [h2]
    exact IntWalk.wrap64_in _ ⟨by omega, by omega⟩
  rw [← hN]
  have HW := Lib.hid hw
  clear hw hN hnn
  go_enter Try.func43, Try.ntmps43
  go_wp2_with fail
  refine (Common_any HC l w h4).mono ?_
  rintro e w1 ⟨g, A, C, rfl, hS, hC, hr, hg, hb⟩
  have HS := Lib.hid hS; have HCM := Lib.hid hC; have HR := Lib.hid hr; have HB := Lib.hid hb
  clear hS hC hr hg hb
  go_wp2_with fail
  rw [HW.out]
  have hcl := HCM.out.1
  go_loopw [6, 26] (fun v6 v26 wr => ∃ x : Nat, v26 = .int .i64 x ∧ v6 = .int .i64 ((N : Int) - (((C.take x).sum : Nat) : Int)) ∧ x ≤ l.length ∧ Hid (RowAt wr g 0 3 (nvals .i64 C)) ∧ Hid (Below w.heap.size w wr)) (fun _ v26 _ => l.length - (intOf v26).toNat)
  case atStart => exact ⟨0, rfl, by rw [List.take_zero]; simp, by omega, HR, HB⟩
  case round =>
    clear HR HB
    obtain ⟨x, rfl, rfl, hx, HR, HB⟩ := hrel
    by_cases hlt : x < l.length
    · have d1 : decide ((x : Int) < (l.length : Int)) = true := decide_eq_true (by omega)
      have d1n : decide (x < l.length) = true := decide_eq_true hlt
      have hxi : (x : Int) < (l.length : Int) := by omega
      have hc := HR.out.num0 x (by rw [hcl]; exact hlt)
      have hts := take_sum C x (by rw [hcl]; exact hlt)
      have hcs := commons_small HCM.out x
      have hss := sum_small C l.length (commons_small HCM.out) x (by omega)
      have hss2 : (C.take x).sum ≤ 4000 * 4000 := Nat.le_trans hss (Nat.mul_le_mul (by omega) h4)
      generalize C.getD x 0 = c at *
      have HTS := Lib.hid hts; have HLT := Lib.hid hlt
      clear hts hss hlt
      generalize (C.take x).sum = S at *
      have hw2 : IntKind.i64.wrap ((N : Int) - (S : Int) - (c : Int)) = (N : Int) - (S : Int) - (c : Int) := by rw [IntKind.wrap_i64]; omega
      go_wp2_with fail
      go_roundw
      case rel => exact ⟨x + 1, by go_num, by rw [HTS.out]; congr 1; omega, by have := HLT.out; omega, HR, HB⟩
      case measure => simp [intOf]; have := HLT.out; omega
    · obtain rfl : x = l.length := by omega
      have d1 : decide ((l.length : Int) < (l.length : Int)) = false := by simp
      have hall : C.take l.length = C := List.take_of_length_le (by rw [hcl]; exact Nat.le_refl _)
      rw [hall]
      go_wp2_with fail
      go_ret2
      exact ⟨A, C, rfl, HS.out, HCM.out, HB.out⟩
theorem nvals_ivals {L : List Nat} {M : List Int} (h : L.map (fun n : Nat => (n : Int)) = M) : nvals .i64 L = ivals M := by
  rw [← h]; simp [nvals, ivals, List.map_map, Function.comp_def]
theorem Sort_b (HC : CmpIs) (w : World) : Calls Try.prog 44 #[.string (bstr [98, 97, 110, 97, 110, 97])] w fun e w' => ∃ g, e = .returned (.tuple #[.slice (some ⟨g, 0, none⟩) 6 6, .nilIface]) ∧ RowAt w' g 0 3 (ivals [5, 3, 1, 0, 4, 2]) ∧ Below w.heap.size w w' := by
  refine (Sort_any HC banana w (by decide)).mono ?_
  rintro e w1 ⟨g1, A, rfl, hS, hr1, hg1, hb1⟩
  obtain rfl := hS.unique banana banana_sorted
  rw [nvals_ivals (M := [5, 3, 1, 0, 4, 2]) rfl] at hr1
  exact ⟨g1, rfl, hr1, hb1⟩
theorem Common_b (HC : CmpIs) (w : World) : Calls Try.prog 45 #[.string (bstr [98, 97, 110, 97, 110, 97])] w fun e w' => ∃ g, e = .returned (.tuple #[.slice (some ⟨g, 0, none⟩) 6 6, .nilIface]) ∧ RowAt w' g 0 3 (ivals [0, 1, 3, 0, 0, 2]) ∧ Below w.heap.size w w' := by
  refine (Common_any HC banana w (by decide)).mono ?_
  rintro e w2 ⟨g2, A, C, rfl, hS, hC, hr2, hg2, hb2⟩
  obtain rfl := hS.unique banana banana_sorted
  obtain rfl := hC.unique banana banana_commons
  rw [nvals_ivals (M := [0, 1, 3, 0, 0, 2]) rfl] at hr2
  exact ⟨g2, rfl, hr2, hb2⟩
theorem Parts_b (HC : CmpIs) (w : World) : Calls Try.prog 43 #[.string (bstr [98, 97, 110, 97, 110, 97])] w fun e w' => e = .returned (.tuple #[.int .i64 15, .nilIface]) ∧ Below w.heap.size w w' := by
  refine (Parts_any HC banana w (by decide)).mono ?_
  rintro e w3 ⟨A, C, rfl, hS, hC, hb3⟩
  obtain rfl := hS.unique banana banana_sorted
  obtain rfl := hC.unique banana banana_commons
  exact ⟨by rw [show (((banana.length * (banana.length + 1) / 2 : Nat) : Int) - (([0, 1, 3, 0, 0, 2].sum : Nat) : Int)) = 15 from by decide], hb3⟩
set_option maxRecDepth 100000 in
set_option maxHeartbeats 1000000 in
theorem sorted_any (HC : CmpIs) (w : World) : Calls Try.prog 41 #[] w fun e w' => e = .returned (.bool true) ∧ Below w.heap.size w w' := by
  go_enter Try.func41, Try.ntmps41
  go_wp2_with fail
  refine (Sort_b HC w).mono ?_
  rintro e w1 ⟨g1, rfl, hr1, hb1⟩
  have HR1 := Lib.hid hr1; have HB1 := Lib.hid hb1
  clear hr1 hb1
  go_wp2_with fail
  refine (Common_b HC w1).mono ?_
  rintro e w2 ⟨g2, rfl, hr2, hb2⟩
  have HR1b := Lib.hid (HR1.out.below hb2 HR1.out.lt); have HR2 := Lib.hid hr2; have HB2 := Lib.hid (HB1.out.trans (hb2.mono HB1.out.size))
  clear hr2 hb2 HR1 HB1
  go_wp2_with fail
  refine (Parts_b HC w2).mono ?_
  rintro e w3 ⟨rfl, hb3⟩
  have HR1c := Lib.hid (HR1b.out.below hb3 HR1b.out.lt); have HR2c := Lib.hid (HR2.out.below hb3 HR2.out.lt); have HB3 := Lib.hid (HB2.out.trans (hb3.mono HB2.out.size))
  clear hb3 HR1b HR2 HB2
  go_wp2_with fail
  refine (Equal_yes _ _ _ _ _ _ [5, 3, 1, 0, 4, 2] _ rfl rfl (by decide) (HR1c.out.alloc _).readsI (RowAt.new' _ _ (by simp) 3 #[.int .i64 5, .int .i64 3, .int .i64 1, .int .i64 0, .int .i64 4, .int .i64 2]).readsI).mono ?_
  rintro e w9 ⟨rfl, k3, rfl⟩
  have HB4 := Lib.hid (bdrewN (HB3.out.alloc HB3.out.size (.cells #[.int .i64 5, .int .i64 3, .int .i64 1, .int .i64 0, .int .i64 4, .int .i64 2] 3)) k3)
  have HR4 : Hid (RowAt ((w3.alloc (.cells #[.int .i64 5, .int .i64 3, .int .i64 1, .int .i64 0, .int .i64 4, .int .i64 2] 3)).drewN k3) g2 0 3 (ivals [0, 1, 3, 0, 0, 2])) := Lib.hid (HR2c.out.alloc _)
  clear HB3 HR1c HR2c
  generalize (w3.alloc (.cells #[.int .i64 5, .int .i64 3, .int .i64 1, .int .i64 0, .int .i64 4, .int .i64 2] 3)).drewN k3 = w4 at *
  go_wp2_with fail
  refine (Equal_yes _ _ _ _ _ _ [0, 1, 3, 0, 0, 2] _ rfl rfl (by decide) (HR4.out.alloc _).readsI (RowAt.new' _ _ (by simp) 3 #[.int .i64 0, .int .i64 1, .int .i64 3, .int .i64 0, .int .i64 0, .int .i64 2]).readsI).mono ?_
  rintro e w9 ⟨rfl, k4, rfl⟩
  go_wp2_with fail
  go_ret
  exact ⟨rfl, bdrewN (HB4.out.alloc HB4.out.size _) _⟩
end Go.Proofs.Ytenhblpegobbjaa
