/- Contracts for spans: Of. -/
import Derived.Test.YtnldobfafaajjaaSpansA
import Derived.Test.YtnldobfafaajjaaPushAt
import Derived.Shelf.SlSortCmp.NoneTotal
namespace Go.Proofs.Ytnldobfafaajjaa
open Go.RowKit
set_option linter.unusedVariables false
set_option linter.unusedSimpArgs false
set_option maxRecDepth 10000
/-- a slice that is read as spans -/
def ReadsSp (w : World) (B : Nat) (a : Option Addr) (n cap : Nat) (l : List Spans.Sp) : Prop :=
  l.length = n ∧ n ≤ cap ∧ ∀ k, k < n → ∃ g off, a = some ⟨g, off, none⟩ ∧ g < B ∧ w.cell? ⟨g, off + k * 2, none⟩ = some (.int .i64 (l.getD k (0, 0)).1) ∧ w.cell? ⟨g, off + k * 2 + 1, none⟩ = some (.int .i64 (l.getD k (0, 0)).2)
theorem ReadsSp.below {w w' : World} {B : Nat} {a : Option Addr} {n cap : Nat} {l : List Spans.Sp} (h : ReadsSp w B a n cap l) (hb : Below B w w') : ReadsSp w' B a n cap l := by
  obtain ⟨h1, h2, h4⟩ := h
  refine ⟨h1, h2, fun k hk => ?_⟩
  obtain ⟨g, off, ha, hg, hc, hd⟩ := h4 k hk
  exact ⟨g, off, ha, hg, (hb.cell (p := ⟨g, off + k * 2, none⟩) hg).trans hc, (hb.cell (p := ⟨g, off + k * 2 + 1, none⟩) hg).trans hd⟩
theorem RowAt.reads {w : World} {g n cap : Nat} {l : List Spans.Sp} (e5 : RowAt w g 0 37 (spCells l)) (hl : l.length = n) (hc : n ≤ cap) : ReadsSp w w.heap.size (some ⟨g, 0, none⟩) n cap l := by
  refine ⟨hl, hc, fun k hk => ⟨g, 0, rfl, e5.lt, ?_, ?_⟩⟩
  · have := e5.cell? (k * 2) (by rw [spCells_length]; omega)
    rw [this, spCells_get l _ (by omega)]
    have a1 : k * 2 / 2 = k := by omega
    have a2 : k * 2 % 2 = 0 := by omega
    rw [a1, a2]; rfl
  · have := e5.cell? (k * 2 + 1) (by rw [spCells_length]; omega)
    rw [Nat.add_assoc, this, spCells_get l _ (by omega)]
    have a1 : (k * 2 + 1) / 2 = k := by omega
    have a2 : (k * 2 + 1) % 2 = 1 := by omega
    rw [a1, a2]; rfl
theorem Owns.reads {w : World} {B : Nat} {a : Option Addr} {n cap : Nat} {l : List Spans.Sp} (h : Owns w B 37 2 a n cap (spCells l)) (hl : l.length = n) : ReadsSp w w.heap.size a n cap l := by
  cases a with
  | none =>
    have := h.of_none
    exact ⟨hl, by omega, fun k hk => by omega⟩
  | some x =>
    obtain ⟨e1, e2, e3, e4, e5⟩ := h.row
    rw [e1]
    exact e5.reads hl e3
theorem infoSp : (Try.prog.info? 37).map (fun i => (i.zero, i.size, i.bytes)) = some (some (.agg #[.int .i64 0, .int .i64 0]), 2, 16) := by kernel_rfl
set_option maxRecDepth 100000 in
theorem sort_all (B : Nat) (a : Option Addr) (m c : Nat) (s : List Spans.Sp) (w : World) (ho : Owns w B 37 2 a m c (spCells s)) (hs : s.length = m) (hm : m ≤ 100000) :
    Calls Try.prog 36 #[.slice a m c, .func (.func 37) #[] #[]] w fun e w' => e = .returned (.tuple #[]) ∧ ∃ d' : List Spans.Sp, d'.length = m ∧ (∀ x, x ∈ d' ↔ x ∈ s) ∧ d'.Pairwise (fun x y => x.1 ≤ y.1) ∧ ReadsSp w' w'.heap.size a m c d' ∧ Below B w w' := by
  rcases Nat.eq_zero_or_pos m with rfl | hpos
  · have hcon := AnyF.slices_SortFunc_none Try.sortSpan a c (.func (.func 37) #[] #[]) w
    change Calls Try.prog 36 _ _ _ at hcon
    refine hcon.mono ?_
    rintro e w' ⟨rfl, rfl⟩
    obtain rfl : s = [] := List.length_eq_zero_iff.1 hs
    exact ⟨rfl, [], rfl, fun x => Iff.rfl, List.Pairwise.nil, ⟨rfl, Nat.zero_le _, fun k hk => by omega⟩, Below.refl _ _⟩
  · cases a with
    | none => have := ho.of_none; omega
    | some y =>
      obtain ⟨e1, e2, e3, e4, e5⟩ := ho.row
      rw [e1]
      refine (sort_any y.block m c s w e5 hs (by omega)).mono ?_
      rintro e w' ⟨rfl, d', h1, h2, h3, h4, h5⟩
      exact ⟨rfl, d', h1, h2, h3, h4.reads h1 e3, h5.mono e2⟩
/-- in a round: the box of a span, the spans so far -/
structure SpB (B2 bx : Nat) (y : Spans.Sp) (w2 : World) (a : Option Addr) (q c : Nat) (out : List Spans.Sp) (w : World) : Prop where
  box : RowAt w bx 0 37 (spCell y)
  own : Owns w B2 37 2 a q c (spCells out)
  bel : Below B2 w2 w
  ne : ∀ x, a = some x → x.block ≠ bx
  size : B2 ≤ w.heap.size
  low : B2 ≤ bx
theorem SpB.start {B2 : Nat} {y : Spans.Sp} {w2 wr : World} {a : Option Addr} {q c : Nat} {out : List Spans.Sp} (h1 : Owns wr B2 37 2 a q c (spCells out)) (h2 : Below B2 w2 wr) (h3 : B2 ≤ wr.heap.size) : SpB B2 wr.heap.size y w2 a q c out (wr.alloc (.cells #[.int .i64 y.1, .int .i64 y.2] 37)) :=
  ⟨RowAt.new wr 37 #[.int .i64 y.1, .int .i64 y.2], h1.alloc _, h2.alloc h3 _, fun x hx => by have := h1.blk_lt x hx; omega, by simp; omega, h3⟩
theorem SpB.drewN {B2 bx : Nat} {y : Spans.Sp} {w2 w : World} {a : Option Addr} {q c : Nat} {out : List Spans.Sp} (h : SpB B2 bx y w2 a q c out w) (n : Nat) : SpB B2 bx y w2 a q c out (w.drewN n) :=
  ⟨h.box.drewN n, h.own.drewN n, ⟨h.bel.os, h.bel.tape, h.bel.output, h.bel.size, h.bel.block⟩, h.ne, h.size, h.low⟩
theorem SpB.cells {B2 bx : Nat} {y : Spans.Sp} {w2 w : World} {a : Option Addr} {q c : Nat} {out : List Spans.Sp} (h : SpB B2 bx y w2 a q c out w) : w.cell? ⟨bx, 0, none⟩ = some (.int .i64 y.1) ∧ w.cell? ⟨bx, 1, none⟩ = some (.int .i64 y.2) :=
  ⟨h.box.cell0 0 (by simp [spCell]), h.box.cell0 1 (by simp [spCell])⟩
theorem clamp_take (l : List Spans.Sp) (k : Nat) (h : k < l.length) : (l.take (k + 1)).filterMap Spans.clamp = (l.take k).filterMap Spans.clamp ++ (match Spans.clamp (l.getD k (0, 0)) with | some y => [y] | none => []) := by
  have e : l.getD k (0, 0) = l[k] := by rw [List.getD_eq_getElem?_getD, List.getElem?_eq_getElem h]; rfl
  rw [List.take_succ_eq_append_getElem h, List.filterMap_append, e]
  congr 1
  rw [List.filterMap_cons]
  split <;> simp [*]
set_option maxHeartbeats 2000000 in
set_option maxRecDepth 100000 in
theorem Of_any (x : Option Addr) (n cap : Nat) (l : List Spans.Sp) (w : World) (hl : ReadsSp w w.heap.size x n cap l) (hn : n ≤ 100000) :
    Calls Try.prog 15 #[.slice x n cap] w fun r w' => ∃ a m c ml, r = .returned (.slice a m c) ∧ ml.length = m ∧ m ≤ n ∧ Spans.Norm l ml ∧ Owns w' w.heap.size 37 2 a m c (spCells ml) ∧ Below w.heap.size w w' := by
  obtain ⟨B, hB⟩ : ∃ B, B = w.heap.size := ⟨_, rfl⟩
  rw [← hB] at hl ⊢
  have hnc := hl.2.1
  have hln := hl.1
  have HB := Lib.hid hB; clear hB
  have HL := Lib.hid hl; clear hl
  have HLN := Lib.hid hln; clear hln
  go_enter Try.func15, Try.ntmps15
  go_wp2_with fail
  go_loopw [3, 12] (fun v3 v12 wr => ∃ (k m c : Nat) (a : Option Addr) (s : List Spans.Sp), k ≤ n ∧ v12 = .int .i64 k ∧ v3 = .slice a m c ∧ Hid (Owns wr B 37 2 a m c (spCells s)) ∧ Hid (s = (l.take k).filterMap Spans.clamp) ∧ s.length = m ∧ m ≤ k ∧ Below B w wr) (fun _ v12 _ => n - (intOf v12).toNat)
  case atStart => exact ⟨0, 0, 0, none, [], by omega, rfl, rfl, Lib.hid (Owns.nil _ _ _ _), Lib.hid (by simp), rfl, by omega, Below.refl _ _⟩
  case round =>
    obtain ⟨k, m, c, a, s, hk, rfl, rfl, HO, HS, hsm, hmk, hbe⟩ := hrel
    have hbB : B ≤ wr.heap.size := by have := hbe.size; have := HB.out; omega
    by_cases hkn : k < n
    · obtain ⟨g, off, rfl, hg, hc0, hc1⟩ := (HL.out.below hbe).2.2 k hkn
      have hct := clamp_take l k (by rw [HLN.out]; exact hkn)
      rw [← HS.out] at hct
      generalize l.getD k (0, 0) = y at *
      obtain ⟨f, t⟩ := y
      simp only [] at hc0 hc1
      have hkI : (k : Int) < (n : Int) := by omega
      have ho1 := HO.out.alloc (.cells #[.int .i64 (max f 0), .int .i64 t] 37)
      have hb1 := hbe.alloc hbB (.cells #[.int .i64 (max f 0), .int .i64 t] 37)
      have hB1 : B ≤ (wr.alloc (.cells #[.int .i64 (max f 0), .int .i64 t] 37)).heap.size := by simp; omega
      have hWs : wr.heap.size + 1 = (wr.alloc (.cells #[.int .i64 (max f 0), .int .i64 t] 37)).heap.size := by simp
      have HWS := Lib.hid hWs; clear hWs
      have hml2 : m + 1 ≤ maxLen := by unfold maxLen; omega
      have hby : (m + 1) * 16 ≤ 140737488355328 := by omega
      by_cases hft : max f 0 < t
      · have hd : decide (max f 0 < t) = true := decide_eq_true hft
        have hcl : Spans.clamp (f, t) = some (max f 0, t) := if_pos hft
        rw [hcl] at hct
        have HCT := Lib.hid hct; clear hct
        go_wp2_with (with_reducible refine wpList_pushW _ _ HWS.out rfl _ _ 32 rfl B 37 (.agg #[.int .i64 0, .int .i64 0]) 2 16 Try.underlying32 infoSp rfl (by decide) a m c _ rfl ho1 [.int .i64 (max f 0), .int .i64 t] rfl (by simp [Value.oneCell']) rfl hml2 hby hB1 ?_; intro a2 cap2 w2 hown2 hgrow2 hloc2 hsz2 hex2; have hb3 := below_blk hb1 ho1 (Nat.le_refl _) hB1 hgrow2)
        go_roundw
        case rel => exact ⟨k + 1, m + 1, cap2, a2, s ++ [(max f 0, t)], by omega, by go_num, rfl, Lib.hid (by rw [spCells_append]; exact hown2), Lib.hid (by rw [HCT.out]), by simp [hsm], by omega, hb3⟩
        case measure => simp [intOf]; omega
      · have hd : decide (max f 0 < t) = false := decide_eq_false hft
        have hcl : Spans.clamp (f, t) = none := if_neg hft
        rw [hcl, List.append_nil] at hct
        have HCT := Lib.hid hct; clear hct
        go_wp2_with fail
        go_roundw
        case rel => exact ⟨k + 1, m, c, a, s, by omega, by go_num, rfl, Lib.hid ho1, Lib.hid HCT.out.symm, hsm, by omega, hb1⟩
        case measure => simp [intOf]; omega
    · obtain rfl : k = n := by omega
      have hd : decide ((k : Int) < (k : Int)) = false := by simp
      go_wp2_with fail
      refine (sort_all B a m c s wr HO.out hsm (by omega)).mono ?_
      rintro e w2 ⟨rfl, d, hdl, hdm, hdp, hdr, hb2⟩
      have hall : s = l.filterMap Spans.clamp := by rw [HS.out, List.take_of_length_le (by rw [HLN.out]; exact Nat.le_refl _)]
      have hfine : ∀ x ∈ d, 0 ≤ x.1 ∧ x.1 < x.2 := fun x hx => Spans.clamp_fine l x (by rw [← hall]; exact (hdm x).1 hx)
      have hsame : ∀ x, x ∈ d ↔ x ∈ l.filterMap Spans.clamp := fun x => by rw [← hall]; exact hdm x
      have hb12 := hbe.trans (hb2.mono (Nat.le_refl _))
      have hB2 : B ≤ w2.heap.size := by have := hb12.size; have := HB.out; omega
      clear hall hdm hb2 hbe hbB HO HS hsm HL
      obtain ⟨B2, hB2e⟩ : ∃ B2, B2 = w2.heap.size := ⟨_, rfl⟩
      rw [← hB2e] at hdr hB2
      have HB2 := Lib.hid hB2e; clear hB2e
      have HDR := Lib.hid hdr; clear hdr
      have HFN := Lib.hid hfine; clear hfine
      have HSM := Lib.hid hsame; clear hsame
      have HDP := Lib.hid hdp; clear hdp
      have HDL := Lib.hid hdl; clear hdl
      go_wp2_with fail
      go_loopw [6, 34] (fun v6 v34 wr => ∃ (j q c' : Nat) (a' : Option Addr) (out : List Spans.Sp), j ≤ m ∧ v34 = .int .i64 j ∧ v6 = .slice a' q c' ∧ Hid (Owns wr B2 37 2 a' q c' (spCells out)) ∧ Hid (Spans.Taken (d.take j) (d.drop j) out) ∧ out.length = q ∧ q ≤ j ∧ Below B2 w2 wr) (fun _ v34 _ => m - (intOf v34).toNat)
      case atStart => exact ⟨0, 0, 0, none, [], by omega, rfl, rfl, Lib.hid (Owns.nil _ _ _ _), Lib.hid (by rw [List.take_zero]; exact Spans.Taken.start), rfl, by omega, Below.refl _ _⟩
      case round =>
        obtain ⟨j, q, c', a', out, hj, rfl, rfl, HO, HT, hoq, hqj, hbe⟩ := hrel
        have hbB : B2 ≤ wr.heap.size := by have := hbe.size; have := HB2.out; omega
        by_cases hjm : j < m
        · obtain ⟨g, off, rfl, hg, hc0, hc1⟩ := (HDR.out.below hbe).2.2 j hjm
          have hdrop : d.drop j = d.getD j (0, 0) :: d.drop (j + 1) := by
            rw [List.getD_eq_getElem?_getD, List.getElem?_eq_getElem (by rw [HDL.out]; exact hjm)]
            exact List.drop_eq_getElem_cons _
          have htake : d.take (j + 1) = d.take j ++ [d.getD j (0, 0)] := by
            rw [List.getD_eq_getElem?_getD, List.getElem?_eq_getElem (by rw [HDL.out]; exact hjm)]
            exact List.take_succ_eq_append_getElem _
          have hmem : d.getD j (0, 0) ∈ d := by
            rw [List.getD_eq_getElem?_getD, List.getElem?_eq_getElem (by rw [HDL.out]; exact hjm)]
            exact List.getElem_mem _
          have hff := HFN.out _ hmem
          have hord : ∀ z ∈ d.drop (j + 1), (d.getD j (0, 0)).1 ≤ z.1 := by
            have := HDP.out.sublist (List.drop_sublist j d)
            rw [hdrop, List.pairwise_cons] at this
            exact this.1
          have hT := HT.out
          rw [hdrop] at hT
          clear hdrop hmem HT
          generalize d.getD j (0, 0) = y at *
          obtain ⟨f, t⟩ := y
          simp only [] at hc0 hc1 hff hord
          have HT := Lib.hid hT; clear hT
          have HORD := Lib.hid hord; clear hord
          have HTK := Lib.hid htake; clear htake
          have hjI : (j : Int) < (m : Int) := by omega
          have HZ0 := Lib.hid (SpB.start (y := (f, t)) HO.out hbe hbB)
          simp only [] at HZ0
          go_wp2_with fail
          clear hc0 hc1 hbe hbB HO
          generalize wr.heap.size = bx at *
          generalize wr.alloc (.cells #[.int .i64 f, .int .i64 t] 37) = wz at *
          obtain ⟨b0, b1⟩ := HZ0.out.cells
          simp only [] at b0 b1
          have hml2 : q + 1 ≤ maxLen := by unfold maxLen; omega
          have hby : (q + 1) * 16 ≤ 140737488355328 := by omega
          rcases List.eq_nil_or_concat out with hout | ⟨mm, ⟨lf, lt⟩, hout⟩
          · have hq0 : q = 0 := by rw [← hoq, hout]; rfl
            have hqI : decide ((0 : Int) < (q : Int)) = false := by rw [decide_eq_false_iff_not]; omega
            have hqN : decide (0 < q) = false := by rw [decide_eq_false_iff_not]; omega
            have HT2 : Hid (Spans.Taken (d.take (j + 1)) (d.drop (j + 1)) (out ++ [(f, t)])) := Lib.hid (by rw [HTK.out]; exact HT.out.next hff HORD.out (fun x hx => by rw [hout] at hx; cases hx))
            have HQ0 := Lib.hid hq0; clear hq0
            have HOUT := Lib.hid hout; clear hout
            go_quiet (fail)
            replace HZ0 := Lib.hid (HZ0.out.drewN nq)
            clear b0 b1
            generalize wz.drewN nq = w8 at *
            obtain ⟨b0, b1⟩ := HZ0.out.cells
            simp only [] at b0 b1
            have ho1 := HZ0.out.own
            have hB1 := HZ0.out.size
            go_wp2_with (with_reducible refine wpList_pushW _ _ rfl rfl _ _ 32 rfl B2 37 (.agg #[.int .i64 0, .int .i64 0]) 2 16 Try.underlying32 infoSp rfl (by decide) a' q c' _ rfl ho1 [.int .i64 f, .int .i64 t] rfl (by simp [Value.oneCell']) rfl hml2 hby hB1 ?_; intro a2 cap2 w9 hown2 hgrow2 hloc2 hsz2 hex2; have hb3 := below_blk HZ0.out.bel ho1 (Nat.le_refl _) hB1 hgrow2)
            go_roundw
            case rel => exact ⟨j + 1, q + 1, cap2, a2, out ++ [(f, t)], by omega, by go_num, rfl, Lib.hid (by rw [spCells_append]; exact hown2), HT2, by simp [hoq], by omega, hb3⟩
            case measure => simp [intOf]; omega
          · have hout : out = mm ++ [(lf, lt)] := by rw [hout, List.concat_eq_append]
            rw [hout, List.length_append, List.length_singleton] at hoq
            obtain ⟨p, rfl⟩ : ∃ p, q = p + 1 := ⟨q - 1, by omega⟩
            have hmm : mm.length = p := by omega
            cases a' with
            | none => have := HZ0.out.own.of_none; omega
            | some z =>
              obtain ⟨r1, r2, r3, r4, r5⟩ := HZ0.out.own.row
              have hne := HZ0.out.ne z rfl
              rw [r1] at HZ0 ⊢
              clear r1 r3 r4
              generalize z.block = ga at *
              have hcl : (spCells mm).length = p * 2 := by rw [spCells_length, hmm]
              have hlast : spCells [(lf, lt)] = [.int .i64 lf, .int .i64 lt] := rfl
              rw [hout, spCells_append, hlast] at r5
              have hz1 := r5.cell0 (p * 2 + 1) (by rw [List.length_append, hcl]; simp)
              rw [List.getElem_append_right (by omega)] at hz1
              simp only [hcl, Nat.add_sub_cancel_left, List.getElem_cons_succ, List.getElem_cons_zero] at hz1
              have hzf := r5.frozen0 (p * 2 + 1) (by rw [List.length_append, hcl]; simp)
              clear r5
              have ht3 : ((p + 1 : Nat) : Int) = (p : Int) + 1 := by simp
              have hqw : IntKind.i64.wrap ((p : Int) + 1 - 1) = (p : Int) := by rw [IntWalk.i64_in _ ⟨by omega, by omega⟩]; omega
              have hqw2 : IntKind.i64.wrap (p : Int) = (p : Int) := IntWalk.i64_in _ ⟨by omega, by omega⟩
              have hq1 : (p : Int) < (p : Int) + 1 := by omega
              have hq2 : (0 : Int) ≤ (p : Int) := by omega
              have hqI : decide ((0 : Int) < (p : Int) + 1) = true := by rw [decide_eq_true_eq]; omega
              have hT := HT.out
              rw [hout] at hT
              have HOUT := Lib.hid hout; clear hout
              by_cases hfl : f ≤ lt
              · have hfd : decide (f ≤ lt) = true := decide_eq_true hfl
                have HT2 : Hid (Spans.Taken (d.take (j + 1)) (d.drop (j + 1)) (mm ++ [(lf, max lt t)])) := Lib.hid (by rw [HTK.out]; exact hT.wider HORD.out hfl)
                clear hT HT
                go_quiet (fail)
                replace HZ0 := Lib.hid (HZ0.out.drewN nq)
                replace hz1 : (wz.drewN nq).cell? ⟨ga, p * 2 + 1, none⟩ = some (.int .i64 lt) := hz1
                replace hzf : (wz.drewN nq).frozen? ⟨ga, p * 2 + 1, none⟩ = false := hzf
                clear b0 b1
                generalize wz.drewN nq = w8 at *
                obtain ⟨b0, b1⟩ := HZ0.out.cells
                simp only [] at b0 b1
                go_wp2_with fail
                go_still_tail 14, (by kernel_rfl)
                change wpList _ _ _ _ _ w8.drew
                go_wp2_with fail
                have hown2 := (HZ0.out.own.set (p * 2 + 1) (by rw [HOUT.out, spCells_append, hlast, List.length_append, hcl]; simp) (.int .i64 (max lt t))).drew
                rw [HOUT.out, spCells_append, hlast, List.set_append_right _ _ (by omega), hcl, Nat.add_sub_cancel_left] at hown2
                simp only [List.set_cons_succ, List.set_cons_zero] at hown2
                have hb3 := (HZ0.out.bel.setCell (p := ⟨ga, p * 2 + 1, none⟩) r2 (.int .i64 (max lt t))).drew
                go_roundw
                case rel => exact ⟨j + 1, p + 1, c', some ⟨ga, 0, none⟩, mm ++ [(lf, max lt t)], by omega, by go_num, rfl, Lib.hid (by rw [spCells_append]; exact hown2), HT2, by simp [hmm], by omega, hb3⟩
                case measure => simp [intOf]; omega
              · have hfd : decide (f ≤ lt) = false := decide_eq_false hfl
                have HT2 : Hid (Spans.Taken (d.take (j + 1)) (d.drop (j + 1)) (out ++ [(f, t)])) := Lib.hid (by rw [HTK.out]; exact HT.out.next hff HORD.out (fun x hx => by rw [HOUT.out, List.getLast?_concat] at hx; cases hx; simp only []; omega))
                clear hT HT
                go_quiet (fail)
                replace HZ0 := Lib.hid (HZ0.out.drewN nq)
                clear b0 b1 hz1 hzf
                generalize wz.drewN nq = w8 at *
                obtain ⟨b0, b1⟩ := HZ0.out.cells
                simp only [] at b0 b1
                have ho1 := HZ0.out.own
                have hB1 := HZ0.out.size
                go_wp2_with (with_reducible refine wpList_pushW _ _ rfl rfl _ _ 32 rfl B2 37 (.agg #[.int .i64 0, .int .i64 0]) 2 16 Try.underlying32 infoSp rfl (by decide) _ (p + 1) c' _ rfl ho1 [.int .i64 f, .int .i64 t] rfl (by simp [Value.oneCell']) rfl hml2 hby hB1 ?_; intro a2 cap2 w9 hown2 hgrow2 hloc2 hsz2 hex2; have hb3 := below_blk HZ0.out.bel ho1 (Nat.le_refl _) hB1 hgrow2)
                go_roundw
                case rel => exact ⟨j + 1, p + 2, cap2, a2, out ++ [(f, t)], by omega, by go_num, rfl, Lib.hid (by rw [spCells_append]; exact hown2), HT2, by rw [HOUT.out]; simp [hmm], by omega, hb3⟩
                case measure => simp [intOf]; omega
        · obtain rfl : j = m := by omega
          have hd : decide ((j : Int) < (j : Int)) = false := by simp
          have ht := HT.out
          rw [List.take_of_length_le (by rw [HDL.out]; exact Nat.le_refl _), List.drop_of_length_le (by rw [HDL.out]; exact Nat.le_refl _)] at ht
          have hnorm := Spans.Taken.done (pre := []) ht HSM.out
          have HNM := Lib.hid hnorm; clear hnorm ht
          go_wp2_with fail
          go_ret
          exact ⟨a', q, c', out, rfl, hoq, by omega, HNM.out, HO.out.mono hB2, hb12.trans (hbe.mono hB2)⟩
end Go.Proofs.Ytnldobfafaajjaa
