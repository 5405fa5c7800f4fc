/- Contracts of types.over, types.round. -/
import Derived.Test.YtlpkebngehmimaaGreatDoorMgTypesMore32
import Derived.Test.YtlpkebngehmimaaGreatDoorMgTypesMore34
section
/- Contract of types.find. -/
namespace Go.Proofs.YtlpkebngehmimaaGreatDoor
open Go.RowKit
set_option linter.unusedVariables false
set_option linter.unusedSimpArgs false
open Rd
/-- items that lie since V -/
structure ItV (V w : World) (rb : Nat) (l : Tm.Its) (ga : Option Addr) (cap : Nat) (bs : List Value) : Prop where
  own : Owns V (rb + 1) 88 13 ga (Tm.Its.len l) cap bs
  enc : Tm.EncI V rb l bs
  bel : Below V.heap.size V w
theorem ItV.up {V w w' : World} {rb : Nat} {l : Tm.Its} {ga : Option Addr} {cap : Nat} {bs : List Value} (h : ItV V w rb l ga cap bs) (hb : Below w.heap.size w w') : ItV V w' rb l ga cap bs := ⟨h.own, h.enc, h.bel.trans (hb.mono h.bel.size)⟩
theorem ItV.upV {V w w' : World} {rb : Nat} {l : Tm.Its} {ga : Option Addr} {cap : Nat} {bs : List Value} (h : ItV V w rb l ga cap bs) (hb : Below V.heap.size w w') : ItV V w' rb l ga cap bs := ⟨h.own, h.enc, h.bel.trans hb⟩
namespace Tm
theorem row_len (l : Its) : l.row.length = l.len := by
  induction l with
  | nil => rfl
  | cons h l ih => simp only [Its.row, Its.len, List.length_cons, ih]
  | when a c b l _ ih => simp only [Its.row, Its.len, List.length_cons, ih]
theorem row_drop : ∀ (i : Nat) (l : Its), (l.drop i).row = l.row.drop i
  | 0, l => by simp [Its.drop]
  | i + 1, .nil => by simp [Its.drop, Its.row]
  | i + 1, .cons _ l => by simp only [Its.drop, Its.row, List.drop_succ_cons]; exact row_drop i l
  | i + 1, .when _ _ _ l => by simp only [Its.drop, Its.row, List.drop_succ_cons]; exact row_drop i l
theorem row_get {l : Its} {i : Nat} {s : Sk} {R : List Sk} (h : (l.drop i).row = s :: R) : l.row[i]? = some s := by
  rw [row_drop] at h
  have := congrArg (fun L => L[0]?) h
  simpa using this
end Tm
/-- the cells of the item at a place, as rules see them -/
abbrev itCells (s : Tm.Sk) (k0 k1 k4 k5 : Nat) (s3 : ByteArray) (b6 : Bool) (p8 a12 : Option Addr) (n12 c12 : Nat) : List Value :=
  [.int .i64 (k0 : Nat), .int .i64 (k1 : Nat), .string (bstr s.name), .string s3, .int .i64 (k4 : Nat), .int .i64 (k5 : Nat), .bool b6, .bool s.many, .pointer p8, .int .i64 ((ruleV s.rule).1 : Nat), .string (bstr (Tm.firstW s.rule)), .string (bstr (Tm.lastW s.rule)), .slice a12 n12 c12]
theorem ruleV_eq (r : Tm.Rl) : (ruleV r).2.1 = Tm.firstW r ∧ (ruleV r).2.2 = Tm.lastW r := by cases r <;> exact ⟨rfl, rfl⟩
theorem ItV.cells {V w : World} {rb : Nat} {l : Tm.Its} {x : Addr} {cap : Nat} {bs : List Value} (h : ItV V w rb l (some x) cap bs) (i : Nat) (hi : i < Tm.Its.len l) :
    ∃ (s : Tm.Sk) (k0 k1 k4 k5 : Nat) (s3 : ByteArray) (b6 : Bool) (p8 a12 : Option Addr) (n12 c12 : Nat), l.row[i]? = some s ∧ RowAt w x.block (i * 13) 88 (itCells s k0 k1 k4 k5 s3 b6 p8 a12 n12 c12) ∧ (k0 = 4 ↔ s.wh = true) ∧ k0 ≤ 4 ∧ s.w4 = (decide (k4 = 4) && !b6) := by
  rcases Tm.drop_lt l i hi with ⟨hd, r, hdr⟩ | ⟨a, c, b, r, hdr⟩
  · obtain ⟨cv, hcv, hrow, hnx⟩ := Tm.EncI.hd h.own h.enc hdr
    have hrow2 := hrow.below h.bel hrow.lt
    obtain ⟨p8, hp8⟩ : ∃ p8, cv = .pointer p8 := by
      cases hc : hd.cnt with
      | none => rw [hc] at hcv; exact ⟨none, hcv⟩
      | some x => rw [hc] at hcv; obtain ⟨b, h1, _⟩ := hcv; exact ⟨_, h1⟩
    refine ⟨Tm.skH hd, Tm.kindN hd.k, hd.at_, (Tm.kindW hd.k).1, (Tm.kindW hd.k).2.1, bstr (Tm.kindT hd.k), (Tm.kindW hd.k).2.2, p8, none, 0, 0, Tm.row_get (by rw [hdr]; rfl), ?_, ?_, ?_, ?_⟩
    · obtain ⟨e1, e2⟩ := ruleV_eq hd.rule
      have e3 : Tm.manyB hd = Tm.manyH hd := rfl
      unfold Tm.hdCells at hrow2
      rw [e1, e2, e3, hp8] at hrow2
      exact hrow2
    · constructor
      · intro e; cases hk : hd.k <;> rw [hk] at e <;> simp [Tm.kindN] at e
      · intro e; cases e
    · cases hd.k <;> simp [Tm.kindN]
    · show Tm.w4K hd.k = _
      unfold Tm.w4K Tm.kindW
      cases hd.k <;> rfl
  · obtain ⟨cb, ga, capb, bb, _, _, _, hrow, hnx⟩ := Tm.EncI.wh h.own h.enc hdr
    have hrow2 := hrow.below h.bel hrow.lt
    exact ⟨Tm.skW, 4, a, 0, 0, bstr [], false, some ⟨cb, 0, none⟩, ga, Tm.Its.len b, capb, Tm.row_get (by rw [hdr]; rfl), hrow2, ⟨fun _ => rfl, fun _ => rfl⟩, Nat.le_refl _, rfl⟩
set_option maxRecDepth 100000 in
set_option maxHeartbeats 1000000 in
theorem found_one (s : Tm.Sk) (k0 k1 k4 k5 : Nat) (s3 : ByteArray) (b6 : Bool) (p8 a12 : Option Addr) (n12 c12 sb : Nat) (nm : Tm.Wd) (w : World) (hk : k0 = 4 ↔ s.wh = true) (hk4 : k0 ≤ 4) (hb : RowAt w sb 0 9 [.string (bstr nm)]) :
    Calls Tryz.prog 109 #[.agg (itCells s k0 k1 k4 k5 s3 b6 p8 a12 n12 c12).toArray, .pointer (some ⟨sb, 0, none⟩)] w fun e w' => e = .returned (.bool (Tm.called nm s)) ∧ Below w.heap.size w w' := by
  have hrow := RowAt.new w 88 (itCells s k0 k1 k4 k5 s3 b6 p8 a12 n12 c12).toArray
  have hbb := (Below.refl w.heap.size w).alloc (Nat.le_refl _) (.cells (itCells s k0 k1 k4 k5 s3 b6 p8 a12 n12 c12).toArray 88)
  have hb2 := hb.below hbb hb.lt
  have c0 := hrow.cell0 0 (by simp); have c2 := hrow.cell0 2 (by simp)
  have d0 := hb2.cell0 0 (by simp)
  simp only [itCells, List.getElem_cons_zero, List.getElem_cons_succ] at c0 c2 d0
  have HB := Lib.hid hbb
  have HK := Lib.hid hk
  clear hrow hbb hb2 hb hk
  unfold Tm.called
  by_cases h4 : k0 = 4
  · have hw := HK.out.1 h4
    have q1 : ((k0 : Int) == 4) = true := by rw [beq_iff_eq]; omega
    have q2 : ((k0 : Int) != 4) = false := by rw [bne, q1]; rfl
    have q3 : (k0 == 4) = true := by rw [beq_iff_eq]; exact h4
    have q4 : (k0 != 4) = false := by rw [bne, q3]; rfl
    have HW := Lib.hid hw
    clear h4 hw
    go_enter Tryz.func109, Tryz.ntmps109
    go_wp2_with fail
    go_ret
    refine ⟨?_, HB.out⟩
    rw [HW.out]; rfl
  · have hw : s.wh = false := by
      cases h : s.wh with
      | false => rfl
      | true => exact absurd (HK.out.2 h) h4
    have q1 : ((k0 : Int) == 4) = false := by rw [beq_eq_false_iff_ne]; omega
    have q2 : ((k0 : Int) != 4) = true := by rw [bne, q1]; rfl
    have q3 : (k0 == 4) = false := by rw [beq_eq_false_iff_ne]; exact h4
    have q4 : (k0 != 4) = true := by rw [bne, q3]; rfl
    have HW := Lib.hid hw
    clear h4 hw
    go_enter Tryz.func109, Tryz.ntmps109
    go_wp2_with fail
    go_ret
    refine ⟨?_, HB.out⟩
    rw [HW.out]; rfl
namespace Tm
theorem findIdx_at {R : List Sk} {nm : Wd} {k : Nat} {s : Sk} (h1 : (R.take k).findIdx? (called nm) = none) (h2 : R[k]? = some s) (h3 : called nm s = true) : R.findIdx? (called nm) = some k := by
  have hk : k < R.length := by
    rcases Nat.lt_or_ge k R.length with h | h
    · exact h
    · rw [List.getElem?_eq_none h] at h2; cases h2
  have e : R = R.take k ++ s :: R.drop (k + 1) := by
    conv => lhs; rw [← List.take_append_drop k R]
    congr 1
    rw [List.drop_eq_getElem_cons hk]
    rw [List.getElem?_eq_getElem hk] at h2
    injection h2 with h2
    rw [h2]
  rw [e, List.findIdx?_append, h1, List.findIdx?_cons, h3]
  simp [List.length_take]; omega
theorem findIdx_more {R : List Sk} {nm : Wd} {k : Nat} {s : Sk} (h1 : (R.take k).findIdx? (called nm) = none) (h2 : R[k]? = some s) (h3 : called nm s = false) : (R.take (k + 1)).findIdx? (called nm) = none := by
  rw [List.take_add_one, h2, List.findIdx?_append, h1]
  simp [List.findIdx?_cons, h3]
theorem findI_bound (R : List Sk) (nm : Wd) : -1 ≤ findI R nm ∧ findI R nm < R.length := by
  unfold findI
  cases h : R.findIdx? (called nm) with
  | none => simp only []; omega
  | some k =>
    have := (List.findIdx?_eq_some_iff_getElem.1 h).1
    simp only []; omega
end Tm
set_option maxRecDepth 100000 in
set_option maxHeartbeats 1000000 in
theorem indexF (V : World) (rb cap sb n : Nat) (l : Tm.Its) (ga : Option Addr) (bs : List Value) (nm : Tm.Wd) (w : World) (hn : n = Tm.Its.len l) (hn2 : n ≤ 100000) (h : ItV V w rb l ga cap bs) (hb : RowAt w sb 0 9 [.string (bstr nm)]) :
    Calls Tryz.prog 108 #[.slice ga n cap, .func (.func 109) #[] #[.pointer (some ⟨sb, 0, none⟩)]] w fun e w' => e = .returned (.int .i64 (Tm.findI l.row nm)) ∧ Below w.heap.size w w' := by
  have hcap : n ≤ cap := by rw [hn]; exact own_cap h.own
  have HH := Lib.hid h; have HBX := Lib.hid hb; have HN := Lib.hid hn
  clear h hb hn
  go_enter Tryz.func108, Tryz.ntmps108
  go_wp2_with fail
  go_loopw [8] (fun v8 wr => ∃ k : Nat, v8 = .int .i64 k ∧ k ≤ n ∧ Hid ((l.row.take k).findIdx? (Tm.called nm) = none) ∧ Hid (Below w.heap.size w wr)) (fun v8 _ => n - (intOf v8).toNat)
  case atStart => exact ⟨0, rfl, Nat.zero_le _, Lib.hid (by simp), Lib.hid (Below.refl _ _)⟩
  case round =>
    obtain ⟨k, rfl, hk, HQ, HB⟩ := hrel
    by_cases hlt : k < n
    · have hki : (k : Int) < (n : Int) := by omega
      have q1 : decide ((k : Int) < (n : Int)) = true := decide_eq_true hki
      have q2 : decide (k < n) = true := decide_eq_true hlt
      obtain ⟨x, rfl⟩ : ∃ x, ga = some x := by
        cases ga with
        | none => have := HH.out.own.of_none.1; rw [← HN.out] at this; omega
        | some x => exact ⟨x, rfl⟩
      obtain ⟨gb, rfl⟩ : ∃ gb, x = ⟨gb, 0, none⟩ := ⟨x.block, HH.out.own.row.1⟩
      obtain ⟨s, k0, k1, k4, k5, s3, b6, p8, a12, n12, c12, hs, hrow, hk0, hk4, hw4⟩ := (HH.out.up HB.out).cells k (by rw [← HN.out]; exact hlt)
      have HF := Lib.hid (found_one s k0 k1 k4 k5 s3 b6 p8 a12 n12 c12 sb nm wr hk0 hk4 (HBX.out.below HB.out HBX.out.lt))
      have HS := Lib.hid hs
      have c0 := hrow.cell 0 (by simp); have c1 := hrow.cell 1 (by simp); have c2 := hrow.cell 2 (by simp); have c3 := hrow.cell 3 (by simp); have c4 := hrow.cell 4 (by simp); have c5 := hrow.cell 5 (by simp); have c6 := hrow.cell 6 (by simp); have c7 := hrow.cell 7 (by simp); have c8 := hrow.cell 8 (by simp); have c9 := hrow.cell 9 (by simp); have c10 := hrow.cell 10 (by simp); have c11 := hrow.cell 11 (by simp); have c12 := hrow.cell 12 (by simp)
      simp only [itCells, List.getElem_cons_zero, List.getElem_cons_succ, Nat.add_zero] at c0 c1 c2 c3 c4 c5 c6 c7 c8 c9 c10 c11 c12
      clear hrow hs hk0 hk4 hw4
      go_wp2_with fail
      refine HF.out.mono ?_
      rintro e w2 ⟨rfl, hb2⟩
      have HB2 := Lib.hid (HB.out.trans (hb2.mono HB.out.size))
      cases hc : Tm.called nm s with
      | true =>
        have HC := Lib.hid hc
        clear hc hb2
        go_wp2_with fail
        go_ret
        refine ⟨?_, HB2.out⟩
        unfold Tm.findI
        rw [Tm.findIdx_at HQ.out HS.out HC.out]
        rfl
      | false =>
        have HC := Lib.hid hc
        clear hc hb2
        go_wp2_with fail
        go_roundw
        case rel => exact ⟨k + 1, by go_num, by omega, Lib.hid (Tm.findIdx_more HQ.out HS.out HC.out), HB2⟩
        case measure => simp [intOf]; omega
    · obtain rfl : k = n := by omega
      have hd : decide ((k : Int) < (k : Int)) = false := by simp
      have hd2 : decide (k < k) = false := by simp
      go_wp2_with fail
      go_ret
      refine ⟨?_, HB.out⟩
      have := HQ.out
      rw [HN.out, ← Tm.row_len, List.take_length] at this
      unfold Tm.findI
      rw [this]
      rfl
set_option maxRecDepth 100000 in
set_option maxHeartbeats 1000000 in
theorem find_any (V : World) (rb cap n : Nat) (l : Tm.Its) (ga : Option Addr) (bs : List Value) (nm : Tm.Wd) (w : World) (hn : n = Tm.Its.len l) (hn2 : n ≤ 100000) (h : ItV V w rb l ga cap bs) :
    Calls Tryz.prog 86 #[.slice ga n cap, .string (bstr nm)] w fun e w' => e = .returned (.int .i64 (Tm.findI l.row nm)) ∧ Below w.heap.size w w' := by
  have hbb := (Below.refl w.heap.size w).alloc (Nat.le_refl _) (.cells #[.string (bstr nm)] 9)
  have HI := Lib.hid (indexF V rb cap w.heap.size n l ga bs nm _ hn hn2 (h.up hbb) (RowAt.new w 9 #[.string (bstr nm)]))
  have HB := Lib.hid hbb
  clear h hbb hn
  go_enter Tryz.func86, Tryz.ntmps86
  go_wp2_with fail
  refine HI.out.mono ?_
  rintro e w2 ⟨rfl, hb2⟩
  have HB2 := Lib.hid (HB.out.trans (hb2.mono (by simp)))
  clear hb2
  go_wp2_with fail
  go_ret
  exact ⟨rfl, HB2.out⟩
end Go.Proofs.YtlpkebngehmimaaGreatDoor
end
section
/- Contracts of types.over, types.round. -/
namespace Go.Proofs.YtlpkebngehmimaaGreatDoor
open Go.RowKit
set_option linter.unusedVariables false
set_option linter.unusedSimpArgs false
open Rd
theorem ruleV_three (r : Tm.Rl) : ((ruleV r).1 == 3) = Tm.isCheck r ∧ ((((ruleV r).1 : Nat) : Int) == 3) = Tm.isCheck r ∧ ((ruleV r).1 == 2) = Tm.isCount r ∧ ((((ruleV r).1 : Nat) : Int) == 2) = Tm.isCount r ∧ ((ruleV r).1 == 0) = Tm.isNone r ∧ ((((ruleV r).1 : Nat) : Int) == 0) = Tm.isNone r := by
  cases r <;> exact ⟨rfl, rfl, rfl, rfl, rfl, rfl⟩
set_option maxRecDepth 100000 in
set_option maxHeartbeats 1000000 in
theorem over_any (V : World) (rb cap n i k : Nat) (l : Tm.Its) (ga : Option Addr) (bs : List Value) (w : World) (hn : n = Tm.Its.len l) (hn2 : n ≤ 100000) (h : ItV V w rb l ga cap bs) (hi : i < n) :
    Calls Tryz.prog 110 #[.slice ga n cap, .int .i64 (i : Nat), .int .i64 (k : Nat)] w fun e w' => e = .returned (.bool (Tm.overB l.row i k)) ∧ Below w.heap.size w w' := by
  have hcap : n ≤ cap := by rw [hn]; exact own_cap h.own
  obtain ⟨x, rfl⟩ : ∃ x, ga = some x := by
    cases ga with
    | none => have := h.own.of_none.1; rw [← hn] at this; omega
    | some x => exact ⟨x, rfl⟩
  obtain ⟨gb, rfl⟩ : ∃ gb, x = ⟨gb, 0, none⟩ := ⟨x.block, h.own.row.1⟩
  obtain ⟨s, k0, k1, k4, k5, s3, b6, p8, a12, n12, c12, hs, hrow, hk0, hk4, hw4⟩ := h.cells i (by rw [← hn]; exact hi)
  have e0 : Tm.overB l.row i k = (Tm.isCheck s.rule && decide (Tm.findI l.row (Tm.firstW s.rule) ≤ (k : Int)) && decide ((k : Int) ≤ Tm.findI l.row (Tm.lastW s.rule))) := by
    unfold Tm.overB
    rw [hs]
  rw [e0]
  have c9 := hrow.cell 9 (by simp); have c10 := hrow.cell 10 (by simp)
  simp only [itCells, List.getElem_cons_zero, List.getElem_cons_succ] at c9 c10
  obtain ⟨r1, r2, _⟩ := ruleV_three s.rule
  have HF := Lib.hid (fun W hW nm => find_any V rb cap n l (some ⟨gb, 0, none⟩) bs nm W hn hn2 hW)
  have HV := Lib.hid h; have HROW := Lib.hid hrow
  have hii : (i : Int) < (n : Int) := by omega
  obtain ⟨fw, hfw⟩ : ∃ fw, fw = Tm.firstW s.rule := ⟨_, rfl⟩
  obtain ⟨lw, hlw⟩ : ∃ lw, lw = Tm.lastW s.rule := ⟨_, rfl⟩
  rw [← hfw] at c10 ⊢
  rw [← hlw]
  have HLW := Lib.hid hlw
  generalize hch : Tm.isCheck s.rule = ch at *
  generalize ha : Tm.findI l.row fw = fa at *
  generalize hb : Tm.findI l.row lw = fb at *
  have HA := Lib.hid ha; have HB := Lib.hid hb
  clear h hn hk0 hk4 hw4 hs hrow e0 hfw hlw ha hb hch
  cases ch with
  | false =>
    go_enter Tryz.func110, Tryz.ntmps110
    go_wp2_with fail
    go_ret
    exact ⟨rfl, Below.refl _ _⟩
  | true =>
    go_enter Tryz.func110, Tryz.ntmps110
    go_wp2_with fail
    refine (HF.out w HV.out fw).mono ?_
    rintro e w2 ⟨rfl, hb2⟩
    rw [HA.out]
    have HB2 := Lib.hid hb2
    have c11 := (HROW.out.below hb2 HROW.out.lt).cell 11 (by simp)
    simp only [itCells, List.getElem_cons_zero, List.getElem_cons_succ] at c11
    rw [← HLW.out] at c11
    clear hb2
    by_cases h1 : fa ≤ (k : Int)
    · have d1 : decide (fa ≤ (k : Int)) = true := decide_eq_true h1
      go_wp2_with fail
      refine (HF.out w2 (HV.out.up HB2.out) lw).mono ?_
      rintro e w3 ⟨rfl, hb3⟩
      rw [HB.out]
      have HB3 := Lib.hid (HB2.out.trans (hb3.mono HB2.out.size))
      clear hb3
      go_wp2_with fail
      go_ret
      refine ⟨?_, HB3.out⟩
      first | rfl | (rw [d1]; rfl) | (simp [d1])
    · have d1 : decide (fa ≤ (k : Int)) = false := decide_eq_false h1
      go_wp2_with fail
      go_ret
      refine ⟨?_, HB2.out⟩
      first | rfl | (rw [d1]; rfl) | (simp [d1])
def RoundC (V : World) (rb cap n : Nat) (l : Tm.Its) (ga : Option Addr) (bs : List Value) (st : Nat) : Prop := ∀ (w : World) (i to : Nat), ItV V w rb l ga cap bs → i < n → to < n →
  Calls Tryz.prog 87 #[.slice ga n cap, .int .i64 (i : Nat), .int .i64 (to : Nat), .int .i64 (st : Nat)] w fun e w' => e = .returned (.bool (Tm.roundB l.row st i to)) ∧ Below w.heap.size w w'
set_option maxRecDepth 100000 in
set_option maxHeartbeats 1000000 in
theorem round_zero (V : World) (rb cap n : Nat) (l : Tm.Its) (ga : Option Addr) (bs : List Value) (hn2 : n ≤ 100000) : RoundC V rb cap n l ga bs 0 := by
  intro w i to h hi hto
  clear h
  go_enter Tryz.func87, Tryz.ntmps87
  go_wp2_with fail
  go_loopw [12] (fun v12 wr => ∃ k : Nat, v12 = .int .i64 k ∧ k ≤ n ∧ Hid (Below w.heap.size w wr)) (fun v12 _ => n - (intOf v12).toNat)
  case atStart => exact ⟨0, rfl, Nat.zero_le _, Lib.hid (Below.refl _ _)⟩
  case round =>
    obtain ⟨k, rfl, hk, HB⟩ := hrel
    by_cases hlt : k < n
    · have hki : (k : Int) < (n : Int) := by omega
      have q1 : decide ((k : Int) < (n : Int)) = true := decide_eq_true hki
      have q2 : decide (k < n) = true := decide_eq_true hlt
      go_wp2_with fail
      go_roundw
      case rel => exact ⟨k + 1, by go_num, by omega, HB⟩
      case measure => simp [intOf]; omega
    · obtain rfl : k = n := by omega
      have hd : decide ((k : Int) < (k : Int)) = false := by simp
      have hd2 : decide (k < k) = false := by simp
      go_wp2_with fail
      go_ret
      exact ⟨rfl, HB.out⟩
theorem any_more {p : Nat → Bool} {k : Nat} (h : (List.range k).any p = false) (h2 : p k = false) : (List.range (k + 1)).any p = false := by
  rw [List.range_succ, List.any_append, h]
  simp [h2]
theorem any_found {p : Nat → Bool} {k n : Nat} (hk : k < n) (h2 : p k = true) : (List.range n).any p = true := by
  rw [List.any_eq_true]
  exact ⟨k, List.mem_range.2 hk, h2⟩
set_option maxRecDepth 100000 in
set_option maxHeartbeats 2000000 in
theorem round_succ (V : World) (rb cap n : Nat) (l : Tm.Its) (ga : Option Addr) (bs : List Value) (hn : n = Tm.Its.len l) (hn2 : n ≤ 100000) (st : Nat) (hst : st ≤ 100000) (ih : RoundC V rb cap n l ga bs st) : RoundC V rb cap n l ga bs (st + 1) := by
  intro w i to h hi hto
  have hcap : n ≤ cap := by rw [hn]; exact own_cap h.own
  obtain ⟨x, rfl⟩ : ∃ x, ga = some x := by
    cases ga with
    | none => have := h.own.of_none.1; rw [← hn] at this; omega
    | some x => exact ⟨x, rfl⟩
  obtain ⟨gb, rfl⟩ : ∃ gb, x = ⟨gb, 0, none⟩ := ⟨x.block, h.own.row.1⟩
  have e0 : Tm.roundB l.row (st + 1) i to = (List.range n).any (fun k => Tm.overB l.row i k && (k == to || (Tm.checkAt l.row k && Tm.roundB l.row st k to))) := by
    rw [hn, ← Tm.row_len]; rfl
  rw [e0]
  obtain ⟨p, hp⟩ : ∃ p : Nat → Bool, p = fun k => Tm.overB l.row i k && (k == to || (Tm.checkAt l.row k && Tm.roundB l.row st k to)) := ⟨_, rfl⟩
  rw [← hp]
  obtain ⟨s1, hs1⟩ : ∃ s1, s1 = st + 1 := ⟨_, rfl⟩
  rw [← hs1]
  have hsp : 0 < s1 := by omega
  have hsi : (0 : Int) < (s1 : Int) := by omega
  have q8 : decide ((0 : Int) < (s1 : Int)) = true := decide_eq_true hsi
  have q9 : decide (0 < s1) = true := decide_eq_true hsp
  have hsub : (s1 : Int) - 1 = (st : Int) := by omega
  have hwr : IntKind.i64.wrap ((s1 : Int) - 1) = (st : Int) := by rw [hsub]; rw [IntKind.wrap_i64]; omega
  have HO := Lib.hid (fun W hW k => over_any V rb cap n i k l (some ⟨gb, 0, none⟩) bs W hn hn2 hW hi)
  have HV := Lib.hid h; have HIH := Lib.hid ih; have HP := Lib.hid hp; have HN := Lib.hid hn; have HTO := Lib.hid hto
  clear h hn e0 hp hs1 ih
  go_enter Tryz.func87, Tryz.ntmps87
  go_wp2_with fail
  go_loopw [12] (fun v12 wr => ∃ k : Nat, v12 = .int .i64 k ∧ k ≤ n ∧ Hid ((List.range k).any p = false) ∧ Hid (Below w.heap.size w wr)) (fun v12 _ => n - (intOf v12).toNat)
  case atStart => exact ⟨0, rfl, Nat.zero_le _, Lib.hid (by simp), Lib.hid (Below.refl _ _)⟩
  case round =>
    obtain ⟨k, rfl, hk, HQ, HB⟩ := hrel
    by_cases hlt : k < n
    · have hki : (k : Int) < (n : Int) := by omega
      have q1 : decide ((k : Int) < (n : Int)) = true := decide_eq_true hki
      have q2 : decide (k < n) = true := decide_eq_true hlt
      have HLT := Lib.hid hlt
      go_wp2_with fail
      refine (HO.out wr (HV.out.up HB.out) k).mono ?_
      rintro e w2 ⟨rfl, hb2⟩
      have HB2 := Lib.hid (HB.out.trans (hb2.mono HB.out.size))
      clear hb2
      cases ho : Tm.overB l.row i k with
      | false =>
        have HPK := Lib.hid (show p k = false by rw [HP.out]; simp [ho])
        clear ho
        go_wp2_with fail
        go_roundw
        case rel => exact ⟨k + 1, by go_num, by have := HLT.out; omega, Lib.hid (any_more HQ.out HPK.out), HB2⟩
        case measure => simp [intOf]; have := HLT.out; omega
      | true =>
        have HOK := Lib.hid ho
        clear ho
        by_cases hkt : k = to
        · have t1 : ((k : Int) == (to : Int)) = true := by rw [beq_iff_eq]; omega
          have t2 : (k == to) = true := by rw [beq_iff_eq]; exact hkt
          have HPK := Lib.hid (show p k = true by rw [HP.out]; show (Tm.overB l.row i k && (k == to || _)) = true; rw [HOK.out, t2]; rfl)
          clear hkt
          go_wp2_with fail
          go_ret
          exact ⟨by rw [any_found HLT.out HPK.out]; rfl, HB2.out⟩
        · have t1 : ((k : Int) == (to : Int)) = false := by rw [beq_eq_false_iff_ne]; omega
          have t2 : (k == to) = false := by rw [beq_eq_false_iff_ne]; exact hkt
          obtain ⟨s, k0, k1, k4, k5, s3, b6, p8, a12, n12, c12, hs, hrow, hk0, hk4, hw4⟩ := (HV.out.up HB2.out).cells k (by rw [← HN.out]; exact hlt)
          have c9 := hrow.cell 9 (by simp)
          simp only [itCells, List.getElem_cons_zero, List.getElem_cons_succ] at c9
          obtain ⟨r1, r2, _⟩ := ruleV_three s.rule
          have hca : Tm.checkAt l.row k = Tm.isCheck s.rule := by unfold Tm.checkAt; rw [hs]
          have HCA := Lib.hid hca; have HKT := Lib.hid hkt
          clear hrow hs hk0 hk4 hw4 hca hkt
          generalize Tm.isCheck s.rule = ch at *
          cases ch with
          | false =>
            have HPK := Lib.hid (show p k = false by rw [HP.out]; simp [HOK.out, HKT.out, HCA.out])
            go_wp2_with fail
            go_roundw
            case rel => exact ⟨k + 1, by go_num, by have := HLT.out; omega, Lib.hid (any_more HQ.out HPK.out), HB2⟩
            case measure => simp [intOf]; have := HLT.out; omega
          | true =>
            go_wp2_with fail
            refine (HIH.out w2 k to (HV.out.up HB2.out) hlt HTO.out).mono ?_
            rintro e w3 ⟨rfl, hb3⟩
            have HB3 := Lib.hid (HB2.out.trans (hb3.mono HB2.out.size))
            clear hb3
            cases hr : Tm.roundB l.row st k to with
            | true =>
              have HPK := Lib.hid (show p k = true by rw [HP.out]; simp [HOK.out, HKT.out, HCA.out, hr])
              clear hr
              go_wp2_with fail
              go_ret
              exact ⟨by rw [any_found HLT.out HPK.out]; rfl, HB3.out⟩
            | false =>
              have HPK := Lib.hid (show p k = false by rw [HP.out]; simp [HOK.out, HKT.out, HCA.out, hr])
              clear hr
              go_wp2_with fail
              go_roundw
              case rel => exact ⟨k + 1, by go_num, by have := HLT.out; omega, Lib.hid (any_more HQ.out HPK.out), HB3⟩
              case measure => simp [intOf]; have := HLT.out; omega
    · obtain rfl : k = n := by omega
      have hd : decide ((k : Int) < (k : Int)) = false := by simp
      have hd2 : decide (k < k) = false := by simp
      go_wp2_with fail
      go_ret
      exact ⟨by rw [HQ.out]; rfl, HB.out⟩
theorem round_any (V : World) (rb cap n : Nat) (l : Tm.Its) (ga : Option Addr) (bs : List Value) (hn : n = Tm.Its.len l) (hn2 : n ≤ 100000) : ∀ st, st ≤ 100000 → RoundC V rb cap n l ga bs st
  | 0, _ => round_zero V rb cap n l ga bs hn2
  | st + 1, h => round_succ V rb cap n l ga bs hn hn2 st (by omega) (round_any V rb cap n l ga bs hn hn2 st (by omega))
end Go.Proofs.YtlpkebngehmimaaGreatDoor
end
