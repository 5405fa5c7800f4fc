/- Contracts of types.over, types.round. -/
import Derived.Test.YtlomecfhobehnaaGreatDoorMgLayoutBack30
section
/- Contracts of types.over, types.round. -/
namespace Go.Proofs.YtlomecfhobehnaaGreatDoor
open Go.RowKit
set_option linter.unusedVariables false
set_option linter.unusedSimpArgs false
open Rd
theorem ruleV_three (r : Tm.Rl) : ((ruleV r).1 == 3) = Tm.isCheck r ∧ ((((ruleV r).1 : Nat) : Int) == 3) = Tm.isCheck r ∧ ((ruleV r).1 == 2) = Tm.isCount r ∧ ((((ruleV r).1 : Nat) : Int) == 2) = Tm.isCount r ∧ ((ruleV r).1 == 0) = Tm.isNone r ∧ ((((ruleV r).1 : Nat) : Int) == 0) = Tm.isNone r := by
  cases r <;> exact ⟨rfl, rfl, rfl, rfl, rfl, rfl⟩
set_option maxRecDepth 100000 in
set_option maxHeartbeats 1000000 in
theorem over_any (V : World) (rb cap n i k : Nat) (l : Tm.Its) (ga : Option Addr) (bs : List Value) (w : World) (hn : n = Tm.Its.len l) (hn2 : n ≤ 100000) (h : ItV V w rb l ga cap bs) (hi : i < n) :
    Calls Tryz.prog 123 #[.slice ga n cap, .int .i64 (i : Nat), .int .i64 (k : Nat)] w fun e w' => e = .returned (.bool (Tm.overB l.row i k)) ∧ Below w.heap.size w w' := by
  have hcap : n ≤ cap := by rw [hn]; exact own_cap h.own
  obtain ⟨x, rfl⟩ : ∃ x, ga = some x := by
    cases ga with
    | none => have := h.own.of_none.1; rw [← hn] at this; omega
    | some x => exact ⟨x, rfl⟩
  obtain ⟨gb, rfl⟩ : ∃ gb, x = ⟨gb, 0, none⟩ := ⟨x.block, h.own.row.1⟩
  obtain ⟨s, k0, k1, k4, k5, s3, b6, p8, a12, n12, c12, hs, hrow, hk0, hk4, hw4⟩ := h.cells i (by rw [← hn]; exact hi)
  have e0 : Tm.overB l.row i k = (Tm.isCheck s.rule && decide (Tm.findI l.row (Tm.firstW s.rule) ≤ (k : Int)) && decide ((k : Int) ≤ Tm.findI l.row (Tm.lastW s.rule))) := by
    unfold Tm.overB
    rw [hs]
  rw [e0]
  have c9 := hrow.cell 9 (by simp); have c10 := hrow.cell 10 (by simp)
  simp only [itCells, List.getElem_cons_zero, List.getElem_cons_succ] at c9 c10
  obtain ⟨r1, r2, _⟩ := ruleV_three s.rule
  have HF := Lib.hid (fun W hW nm => find_any V rb cap n l (some ⟨gb, 0, none⟩) bs nm W hn hn2 hW)
  have HV := Lib.hid h; have HROW := Lib.hid hrow
  have hii : (i : Int) < (n : Int) := by omega
  obtain ⟨fw, hfw⟩ : ∃ fw, fw = Tm.firstW s.rule := ⟨_, rfl⟩
  obtain ⟨lw, hlw⟩ : ∃ lw, lw = Tm.lastW s.rule := ⟨_, rfl⟩
  rw [← hfw] at c10 ⊢
  rw [← hlw]
  have HLW := Lib.hid hlw
  generalize hch : Tm.isCheck s.rule = ch at *
  generalize ha : Tm.findI l.row fw = fa at *
  generalize hb : Tm.findI l.row lw = fb at *
  have HA := Lib.hid ha; have HB := Lib.hid hb
  clear h hn hk0 hk4 hw4 hs hrow e0 hfw hlw ha hb hch
  cases ch with
  | false =>
    go_enter Tryz.func123, Tryz.ntmps123
    go_wp2_with fail
    go_ret
    exact ⟨rfl, Below.refl _ _⟩
  | true =>
    go_enter Tryz.func123, Tryz.ntmps123
    go_wp2_with fail
    refine (HF.out w HV.out fw).mono ?_
    rintro e w2 ⟨rfl, hb2⟩
    rw [HA.out]
    have HB2 := Lib.hid hb2
    have c11 := (HROW.out.below hb2 HROW.out.lt).cell 11 (by simp)
    simp only [itCells, List.getElem_cons_zero, List.getElem_cons_succ] at c11
    rw [← HLW.out] at c11
    clear hb2
    by_cases h1 : fa ≤ (k : Int)
    · have d1 : decide (fa ≤ (k : Int)) = true := decide_eq_true h1
      go_wp2_with fail
      refine (HF.out w2 (HV.out.up HB2.out) lw).mono ?_
      rintro e w3 ⟨rfl, hb3⟩
      rw [HB.out]
      have HB3 := Lib.hid (HB2.out.trans (hb3.mono HB2.out.size))
      clear hb3
      go_wp2_with fail
      go_ret
      refine ⟨?_, HB3.out⟩
      first | rfl | (rw [d1]; rfl) | (simp [d1])
    · have d1 : decide (fa ≤ (k : Int)) = false := decide_eq_false h1
      go_wp2_with fail
      go_ret
      refine ⟨?_, HB2.out⟩
      first | rfl | (rw [d1]; rfl) | (simp [d1])
def RoundC (V : World) (rb cap n : Nat) (l : Tm.Its) (ga : Option Addr) (bs : List Value) (st : Nat) : Prop := ∀ (w : World) (i to : Nat), ItV V w rb l ga cap bs → i < n → to < n →
  Calls Tryz.prog 118 #[.slice ga n cap, .int .i64 (i : Nat), .int .i64 (to : Nat), .int .i64 (st : Nat)] w fun e w' => e = .returned (.bool (Tm.roundB l.row st i to)) ∧ Below w.heap.size w w'
set_option maxRecDepth 100000 in
set_option maxHeartbeats 1000000 in
theorem round_zero (V : World) (rb cap n : Nat) (l : Tm.Its) (ga : Option Addr) (bs : List Value) (hn2 : n ≤ 100000) : RoundC V rb cap n l ga bs 0 := by
  intro w i to h hi hto
  clear h
  go_enter Tryz.func118, Tryz.ntmps118
  go_wp2_with fail
  go_loopw [12] (fun v12 wr => ∃ k : Nat, v12 = .int .i64 k ∧ k ≤ n ∧ Hid (Below w.heap.size w wr)) (fun v12 _ => n - (intOf v12).toNat)
  case atStart => exact ⟨0, rfl, Nat.zero_le _, Lib.hid (Below.refl _ _)⟩
  case round =>
    obtain ⟨k, rfl, hk, HB⟩ := hrel
    by_cases hlt : k < n
    · have hki : (k : Int) < (n : Int) := by omega
      have q1 : decide ((k : Int) < (n : Int)) = true := decide_eq_true hki
      have q2 : decide (k < n) = true := decide_eq_true hlt
      go_wp2_with fail
      go_roundw
      case rel => exact ⟨k + 1, by go_num, by omega, HB⟩
      case measure => simp [intOf]; omega
    · obtain rfl : k = n := by omega
      have hd : decide ((k : Int) < (k : Int)) = false := by simp
      have hd2 : decide (k < k) = false := by simp
      go_wp2_with fail
      go_ret
      exact ⟨rfl, HB.out⟩
theorem any_more {p : Nat → Bool} {k : Nat} (h : (List.range k).any p = false) (h2 : p k = false) : (List.range (k + 1)).any p = false := by
  rw [List.range_succ, List.any_append, h]
  simp [h2]
theorem any_found {p : Nat → Bool} {k n : Nat} (hk : k < n) (h2 : p k = true) : (List.range n).any p = true := by
  rw [List.any_eq_true]
  exact ⟨k, List.mem_range.2 hk, h2⟩
set_option maxRecDepth 100000 in
set_option maxHeartbeats 2000000 in
theorem round_succ (V : World) (rb cap n : Nat) (l : Tm.Its) (ga : Option Addr) (bs : List Value) (hn : n = Tm.Its.len l) (hn2 : n ≤ 100000) (st : Nat) (hst : st ≤ 100000) (ih : RoundC V rb cap n l ga bs st) : RoundC V rb cap n l ga bs (st + 1) := by
  intro w i to h hi hto
  have hcap : n ≤ cap := by rw [hn]; exact own_cap h.own
  obtain ⟨x, rfl⟩ : ∃ x, ga = some x := by
    cases ga with
    | none => have := h.own.of_none.1; rw [← hn] at this; omega
    | some x => exact ⟨x, rfl⟩
  obtain ⟨gb, rfl⟩ : ∃ gb, x = ⟨gb, 0, none⟩ := ⟨x.block, h.own.row.1⟩
  have e0 : Tm.roundB l.row (st + 1) i to = (List.range n).any (fun k => Tm.overB l.row i k && (k == to || (Tm.checkAt l.row k && Tm.roundB l.row st k to))) := by
    rw [hn, ← Tm.row_len]; rfl
  rw [e0]
  obtain ⟨p, hp⟩ : ∃ p : Nat → Bool, p = fun k => Tm.overB l.row i k && (k == to || (Tm.checkAt l.row k && Tm.roundB l.row st k to)) := ⟨_, rfl⟩
  rw [← hp]
  obtain ⟨s1, hs1⟩ : ∃ s1, s1 = st + 1 := ⟨_, rfl⟩
  rw [← hs1]
  have hsp : 0 < s1 := by omega
  have hsi : (0 : Int) < (s1 : Int) := by omega
  have q8 : decide ((0 : Int) < (s1 : Int)) = true := decide_eq_true hsi
  have q9 : decide (0 < s1) = true := decide_eq_true hsp
  have hsub : (s1 : Int) - 1 = (st : Int) := by omega
  have hwr : IntKind.i64.wrap ((s1 : Int) - 1) = (st : Int) := by rw [hsub]; rw [IntKind.wrap_i64]; omega
  have HO := Lib.hid (fun W hW k => over_any V rb cap n i k l (some ⟨gb, 0, none⟩) bs W hn hn2 hW hi)
  have HV := Lib.hid h; have HIH := Lib.hid ih; have HP := Lib.hid hp; have HN := Lib.hid hn; have HTO := Lib.hid hto
  clear h hn e0 hp hs1 ih
  go_enter Tryz.func118, Tryz.ntmps118
  go_wp2_with fail
  go_loopw [12] (fun v12 wr => ∃ k : Nat, v12 = .int .i64 k ∧ k ≤ n ∧ Hid ((List.range k).any p = false) ∧ Hid (Below w.heap.size w wr)) (fun v12 _ => n - (intOf v12).toNat)
  case atStart => exact ⟨0, rfl, Nat.zero_le _, Lib.hid (by simp), Lib.hid (Below.refl _ _)⟩
  case round =>
    obtain ⟨k, rfl, hk, HQ, HB⟩ := hrel
    by_cases hlt : k < n
    · have hki : (k : Int) < (n : Int) := by omega
      have q1 : decide ((k : Int) < (n : Int)) = true := decide_eq_true hki
      have q2 : decide (k < n) = true := decide_eq_true hlt
      have HLT := Lib.hid hlt
      go_wp2_with fail
      refine (HO.out wr (HV.out.up HB.out) k).mono ?_
      rintro e w2 ⟨rfl, hb2⟩
      have HB2 := Lib.hid (HB.out.trans (hb2.mono HB.out.size))
      clear hb2
      cases ho : Tm.overB l.row i k with
      | false =>
        have HPK := Lib.hid (show p k = false by rw [HP.out]; simp [ho])
        clear ho
        go_wp2_with fail
        go_roundw
        case rel => exact ⟨k + 1, by go_num, by have := HLT.out; omega, Lib.hid (any_more HQ.out HPK.out), HB2⟩
        case measure => simp [intOf]; have := HLT.out; omega
      | true =>
        have HOK := Lib.hid ho
        clear ho
        by_cases hkt : k = to
        · have t1 : ((k : Int) == (to : Int)) = true := by rw [beq_iff_eq]; omega
          have t2 : (k == to) = true := by rw [beq_iff_eq]; exact hkt
          have HPK := Lib.hid (show p k = true by rw [HP.out]; show (Tm.overB l.row i k && (k == to || _)) = true; rw [HOK.out, t2]; rfl)
          clear hkt
          go_wp2_with fail
          go_ret
          exact ⟨by rw [any_found HLT.out HPK.out]; rfl, HB2.out⟩
        · have t1 : ((k : Int) == (to : Int)) = false := by rw [beq_eq_false_iff_ne]; omega
          have t2 : (k == to) = false := by rw [beq_eq_false_iff_ne]; exact hkt
          obtain ⟨s, k0, k1, k4, k5, s3, b6, p8, a12, n12, c12, hs, hrow, hk0, hk4, hw4⟩ := (HV.out.up HB2.out).cells k (by rw [← HN.out]; exact hlt)
          have c9 := hrow.cell 9 (by simp)
          simp only [itCells, List.getElem_cons_zero, List.getElem_cons_succ] at c9
          obtain ⟨r1, r2, _⟩ := ruleV_three s.rule
          have hca : Tm.checkAt l.row k = Tm.isCheck s.rule := by unfold Tm.checkAt; rw [hs]
          have HCA := Lib.hid hca; have HKT := Lib.hid hkt
          clear hrow hs hk0 hk4 hw4 hca hkt
          generalize Tm.isCheck s.rule = ch at *
          cases ch with
          | false =>
            have HPK := Lib.hid (show p k = false by rw [HP.out]; simp [HOK.out, HKT.out, HCA.out])
            go_wp2_with fail
            go_roundw
            case rel => exact ⟨k + 1, by go_num, by have := HLT.out; omega, Lib.hid (any_more HQ.out HPK.out), HB2⟩
            case measure => simp [intOf]; have := HLT.out; omega
          | true =>
            go_wp2_with fail
            refine (HIH.out w2 k to (HV.out.up HB2.out) hlt HTO.out).mono ?_
            rintro e w3 ⟨rfl, hb3⟩
            have HB3 := Lib.hid (HB2.out.trans (hb3.mono HB2.out.size))
            clear hb3
            cases hr : Tm.roundB l.row st k to with
            | true =>
              have HPK := Lib.hid (show p k = true by rw [HP.out]; simp [HOK.out, HKT.out, HCA.out, hr])
              clear hr
              go_wp2_with fail
              go_ret
              exact ⟨by rw [any_found HLT.out HPK.out]; rfl, HB3.out⟩
            | false =>
              have HPK := Lib.hid (show p k = false by rw [HP.out]; simp [HOK.out, HKT.out, HCA.out, hr])
              clear hr
              go_wp2_with fail
              go_roundw
              case rel => exact ⟨k + 1, by go_num, by have := HLT.out; omega, Lib.hid (any_more HQ.out HPK.out), HB3⟩
              case measure => simp [intOf]; have := HLT.out; omega
    · obtain rfl : k = n := by omega
      have hd : decide ((k : Int) < (k : Int)) = false := by simp
      have hd2 : decide (k < k) = false := by simp
      go_wp2_with fail
      go_ret
      exact ⟨by rw [HQ.out]; rfl, HB.out⟩
theorem round_any (V : World) (rb cap n : Nat) (l : Tm.Its) (ga : Option Addr) (bs : List Value) (hn : n = Tm.Its.len l) (hn2 : n ≤ 100000) : ∀ st, st ≤ 100000 → RoundC V rb cap n l ga bs st
  | 0, _ => round_zero V rb cap n l ga bs hn2
  | st + 1, h => round_succ V rb cap n l ga bs hn hn2 st (by omega) (round_any V rb cap n l ga bs hn hn2 st (by omega))
end Go.Proofs.YtlomecfhobehnaaGreatDoor
end
