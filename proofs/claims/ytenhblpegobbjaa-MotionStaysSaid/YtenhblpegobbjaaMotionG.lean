/- The law MotionStays. -/
import Derived.Test.YtenhblpegobbjaaMotionF
import Derived.Test.YtenhblpegobbjaaMotionB
import Derived.Test.YtenhblpegobbjaaOwnStep
import Derived.Test.YtenhblpegobbjaaPick
import Derived.Deep.RegionLawGrows
namespace Go.Proofs.Ytenhblpegobbjaa
open Go.RowKit
set_option linter.unusedVariables false
set_option linter.unusedSimpArgs false
attribute [local go_sem] Oper.semAt_some
theorem infoI64 : (Try.prog.info? 3).map (fun i => (i.zero, i.size, i.bytes)) = some (some (.int .i64 0), 1, 8) := by kernel_rfl
/-- the law's boxes: the command, the place, the marks; the parts' own row, from B on -/
structure MS (w : World) (B : Nat) (s : ByteArray) (at_ : Int) (C : List Value) (cB pB mB : Nat) (ks : List Nat) (a : Option Addr) (c : Nat) (P : List Int) (wr : World) : Prop where
  cm : RowAt wr cB 0 43 C
  pl : RowAt wr pB 0 49 [.string s, .int .i64 at_, .slice none 0 0, .map (some mB), .slice a P.length c]
  mm : MarkMap wr mB ks
  ow : Owns wr B 3 1 a P.length c (ivals P)
  lo : w.heap.size ≤ pB
  cp : cB ≠ pB
  mp : mB ≠ pB
  cb : cB < B
  pb : pB < B
  mb : mB < B
  sz : B ≤ wr.heap.size
  bel : Below w.heap.size w wr
theorem MS.next {w : World} {B : Nat} {s : ByteArray} {at_ : Int} {C : List Value} {cB pB mB : Nat} {ks : List Nat} {a : Option Addr} {c : Nat} {P : List Int} {wr : World} (h : MS w B s at_ C cB pB mB ks a c P wr) {v : Int} {o : Obj} {a' : Option Addr} {c' : Nat} {w' : World}
    (ho : Owns w' B 3 1 a' (P.length + 1) c' (ivals P ++ [.int .i64 v])) (hg : (wr.drew.alloc o).grownBy w' (blk a)) (hl : ∀ x, a' = some x → a = some x ∨ (wr.drew.alloc o).heap.size ≤ x.block) :
    MS w B s at_ C cB pB mB ks a' c' (P ++ [v]) (w'.setCell ⟨pB, 4, none⟩ (.slice a' (P.length + 1) c')) := by
  have hz0 : wr.drew.heap.size = wr.heap.size := rfl
  have hne : ∀ g, g < B → some g ≠ blk a := by
    intro g hg2 e
    cases a with
    | none => cases e
    | some x => have := h.ow.lt.1; have e2 : g = x.block := Option.some.inj e; omega
  have hlt : ∀ g, g < B → g < (wr.drew.alloc o).heap.size := fun g hg2 => by have := h.sz; simp; omega
  have keep : ∀ g, g < B → w'.heap[g]? = wr.heap[g]? := fun g hg2 => (hg.block g (hlt g hg2) (hne g hg2)).trans (Below.heap_alloc wr.drew o g (by have := h.sz; omega))
  have hp' := h.pl.of_heap (keep pB h.pb)
  have hp4 := hp'.set0 4 (by simp) (.slice a' (P.length + 1) c')
  have hb1 : Below w.heap.size w w' := below_blk (h.bel.drew.alloc h.bel.size o) (h.ow.drew.alloc o) (by have := h.lo; have := h.pb; omega) (by have := h.bel.size; simp; omega) hg
  have hsz : B ≤ w'.heap.size := by have h1 := hg.size; have h2 := h.sz; rw [World.size_alloc] at h1; omega
  refine ⟨?_, ?_, ?_, ?_, h.lo, h.cp, h.mp, h.cb, h.pb, h.mb, by simpa using hsz, hb1.setCell h.lo _⟩
  · exact (h.cm.of_heap (keep cB h.cb)).far h.cp _
  · rw [List.length_append]; exact hp4
  · exact (h.mm.of_heap (keep mB h.mb)).of_heap (Below.heap_setCell _ _ _ _ h.mp)
  · rw [List.length_append]
    have : ivals (P ++ [v]) = ivals P ++ [.int .i64 v] := by simp [ivals]
    rw [this]
    exact ho.far (fun x hx => by subst hx; have := ho.lt.1; have := h.pb; simp only; omega) _
/-- a call whose contract leaves the world alone, as one step of a region that draws -/
theorem step_call {P : Program} {ops : Array Oper} {o : Oper} {a : Act} {w : World} {K : Act → World → Prop} {Q : Exit → Act → World → Prop} {E : Prop} (hg : o.guard = none) (f : FuncId) (args : Array Value) (v : Value)
    (hrun : (execOp a.eval o).run P w = .ok (.enter f args) w) (hc : Calls P f args w fun e w' => e = .returned v ∧ w = w') (hK : K (a.put o.dst v) w) :
    if Region.wanted o (yielded ops a.tmps) = true then Oper.wp P o a w K Q else E := by
  have hw : Region.wanted o (yielded ops a.tmps) = true := by simp [Region.wanted, hg]
  rw [if_pos hw]
  unfold Oper.wp
  rw [hrun]
  refine hc.mono ?_
  rintro e w' ⟨rfl, rfl⟩
  exact hK
/-- what stands in the fifth cell of a box -/
def cellS (b : Nat) (w : World) : Value := (w.cell? ⟨b, 4, none⟩).getD (.int .i64 0)
theorem cellS_of {b : Nat} {w : World} {v : Value} (h : w.cell? ⟨b, 4, none⟩ = some v) : cellS b w = v := by simp [cellS, h]
theorem cellS_some {b : Nat} {w : World} {v : Value} (h : w.cell? ⟨b, 4, none⟩ = some v) : w.cell? ⟨b, 4, none⟩ = some (cellS b w) := by rw [cellS_of h]; exact h
/-- what the drawn region of the loop goes by -/
def GS (pB : Nat) (x : Addr) (z : Int) (w1 : World) : Prop := w1.cell? ⟨pB, 4, none⟩ = some (cellS pB w1) ∧ w1.frozen? ⟨pB, 4, none⟩ = false ∧ w1.cell? x = some (.int .i64 z)
theorem GS.of_row {pB : Nat} {x : Addr} {z : Int} {w1 : World} {L : List Value} (h : RowAt w1 pB 0 49 L) (hl : L.length = 5) (hx : w1.cell? x = some (.int .i64 z)) : GS pB x z w1 :=
  ⟨cellS_some (h.cell0 4 (by omega)), h.frozen0 4 (by omega), hx⟩
set_option maxRecDepth 100000 in
set_option maxHeartbeats 4000000 in
theorem MotionStays_long (s K : ByteArray) (at_ : Int) (ap : Option Addr) (n cp : Nat) (w : World) (h : 300 < s.size ∨ 20 < K.size ∨ 40 < n) :
    Calls Try.prog 5 #[.string s, .int .i64 at_, .slice ap n cp, .string K] w fun e w' => e = .returned (.bool true) ∧ Below w.heap.size w w' := by
  have HG := Lib.hid (fun w => gone_any w); have HK := Lib.hid (fun w => keyed_any w)
  by_cases h1 : 300 < s.size
  · have d1 : decide ((300 : Int) < (s.size : Int)) = true := decide_eq_true (by omega)
    clear h
    go_enter Try.func5, Try.ntmps5
    go_wp2_with fail
    refine (HG.out _).mono ?_
    rintro e w1 ⟨rfl, hb1⟩
    go_wp2_with fail
    refine (HK.out _).mono ?_
    rintro e w2 ⟨rfl, hb2⟩
    have hbb := hb1.trans (hb2.mono hb1.size)
    go_wp2_with fail
    go_ret
    exact ⟨rfl, hbb⟩
  have d1 : decide ((300 : Int) < (s.size : Int)) = false := decide_eq_false (by omega)
  by_cases h2 : 20 < K.size
  · have d2 : decide ((20 : Int) < (K.size : Int)) = true := decide_eq_true (by omega)
    clear h
    go_enter Try.func5, Try.ntmps5
    go_wp2_with fail
    refine (HG.out _).mono ?_
    rintro e w1 ⟨rfl, hb1⟩
    go_wp2_with fail
    refine (HK.out _).mono ?_
    rintro e w2 ⟨rfl, hb2⟩
    have hbb := hb1.trans (hb2.mono hb1.size)
    go_wp2_with fail
    go_ret
    exact ⟨rfl, hbb⟩
  · have d2 : decide ((20 : Int) < (K.size : Int)) = false := decide_eq_false (by omega)
    have d3 : decide ((40 : Int) < (n : Int)) = true := decide_eq_true (by omega)
    clear h
    go_enter Try.func5, Try.ntmps5
    go_wp2_with fail
    refine (HG.out _).mono ?_
    rintro e w1 ⟨rfl, hb1⟩
    go_wp2_with fail
    refine (HK.out _).mono ?_
    rintro e w2 ⟨rfl, hb2⟩
    have hbb := hb1.trans (hb2.mono hb1.size)
    go_wp2_with fail
    go_ret
    exact ⟨rfl, hbb⟩
set_option maxRecDepth 100000 in
set_option maxHeartbeats 8000000 in
theorem MotionStays_in (s K : ByteArray) (at_ : Int) (ap : Option Addr) (n cp : Nat) (zs : List Int) (w : World) (hs : s.size ≤ 300) (hK : K.size ≤ 20) (hn : n ≤ 40) (hl : zs.length = n) (hr : RdI w ap zs) :
    Calls Try.prog 5 #[.string s, .int .i64 at_, .slice ap n cp, .string K] w fun e w' => e = .returned (.bool true) ∧ Below w.heap.size w w' := by
  have HG := Lib.hid (fun w => gone_any w); have HK := Lib.hid (fun w => keyed_any w)
  have d1 : decide ((300 : Int) < (s.size : Int)) = false := decide_eq_false (by omega)
  have d2 : decide ((20 : Int) < (K.size : Int)) = false := decide_eq_false (by omega)
  have d3 : decide ((40 : Int) < (n : Int)) = false := decide_eq_false (by omega)
  have hpa := fun w => Parse_any K w (by omega)
  have hok := Keys.parse_ok K.data.toList
  obtain ⟨M, hM, hM1, hM2, hM3⟩ : ∃ M : Nat, max (s.size : Int) 1 = (M : Int) ∧ 1 ≤ M ∧ M ≤ 300 ∧ M ≤ s.size - 1 + 1 := ⟨max s.size 1, by omega, by omega, by omega, by omega⟩
  have hpl := pickN_lt at_ M hM1
  have hpk := fun w => pick_at at_ (M : Int) M w rfl hM1 (by omega)
  generalize pickN at_ M = p at *
  have HPA := Lib.hid hpa; have HOK := Lib.hid hok; have HPK := Lib.hid hpk; have HR := Lib.hid hr; have HL := Lib.hid hl
  clear hpa hok hpk hr hl
  go_enter Try.func5, Try.ntmps5
  go_wp2_with fail
  refine (HG.out _).mono ?_
  rintro e w1 ⟨rfl, hb1⟩
  have HB1 := Lib.hid hb1
  clear hb1
  go_wp2_with fail
  refine (HK.out _).mono ?_
  rintro e w2 ⟨rfl, hb2⟩
  have HB2 := Lib.hid (HB1.out.trans (hb2.mono HB1.out.size))
  clear hb2 HB1
  go_wp2_with fail
  refine (HPA.out _).mono ?_
  rintro e w3 ⟨arg, harg, he, hb3⟩
  have HB3 := Lib.hid (HB2.out.trans (hb3.mono HB2.out.size))
  have hok := HOK.out
  generalize Keys.parse K.data.toList = pr at *
  obtain ⟨⟨reg, nn, op, mv, al⟩, rest, what⟩ := pr
  simp only at harg he hok
  change e = .returned (.tuple #[.agg #[.int .u8 (reg : Int), .int .i64 (nn : Int), .int .u8 (op : Int), .int .u8 (mv : Int), .string arg], .int .i64 ((K.size - rest.length : Nat) : Int), .int .i64 (what : Nat)]) at he
  subst he
  obtain rfl : arg = bstr al := by rw [eq_bstr arg, harg]
  have HOK2 := Lib.hid hok
  clear hok harg hb3 HB2 HPA HOK
  go_wp2_with fail
  refine (HPK.out _).mono ?_
  rintro e w4 ⟨rfl, rfl⟩
  obtain ⟨W, hW⟩ : ∃ W, W = w3.alloc (.cells #[.int .u8 (reg : Int), .int .i64 (nn : Int), .int .u8 (op : Int), .int .u8 (mv : Int), .string (bstr al)] 43) := ⟨_, rfl⟩
  have hWz : W.heap.size = w3.heap.size + 1 := by rw [hW, World.size_alloc]
  have hcW : RowAt W w3.heap.size 0 43 [.int .u8 (reg : Int), .int .i64 (nn : Int), .int .u8 (op : Int), .int .u8 (mv : Int), .string (bstr al)] := by rw [hW]; exact RowAt.new w3 _ _
  have hbW : Below w.heap.size w W := by rw [hW]; exact HB3.out.alloc HB3.out.size _
  obtain ⟨wa, run1, m1, g1, z1⟩ := (MarkMap.made W).put 97 (by omega) (by simp) 5
  obtain ⟨wb, run2, m2, g2, z2⟩ := m1.put 98 (by omega) (by simp) 500
  rw [World.size_alloc] at z1
  rw [hWz] at run1 run2 m2 g1 g2
  have run1' : (Instr.mapUpdate 46 (.map (some (w3.heap.size + 1))) (.int .u8 97) (.int .i64 5)).run Try.prog (W.alloc (.map #[] 0)) = .ok () wa := run1
  have run2' : (Instr.mapUpdate 46 (.map (some (w3.heap.size + 1))) (.int .u8 98) (.int .i64 500)).run Try.prog wa = .ok () wb := run2
  have keep : ∀ g, g < w3.heap.size + 1 → wb.heap[g]? = W.heap[g]? := fun g hg2 => ((g2.block g (by omega) (fun e => by have := Option.some.inj e; omega)).trans (g1.block g (by rw [World.size_alloc]; omega) (fun e => by have := Option.some.inj e; omega))).trans (Below.heap_alloc W _ g (by omega))
  have hbb : Below w.heap.size w wb := by
    have h0 := hbW.alloc hbW.size (.map #[] 0)
    have h1 := h0.grown g1 (by rw [World.size_alloc]; have := hbW.size; omega) (fun k hk => by have := Option.some.inj hk; have := hbW.size; omega)
    exact h1.grown g2 h1.size (fun k hk => by have := Option.some.inj hk; have := hbW.size; omega)
  obtain ⟨W5, hW5⟩ : ∃ W5, W5 = wb.alloc (.cells #[.string s, .int .i64 (p : Nat), .slice none 0 0, .map (some (w3.heap.size + 1)), .slice none 0 0] 49) := ⟨_, rfl⟩
  have hms : MS w W5.heap.size s (p : Nat) [.int .u8 (reg : Int), .int .i64 (nn : Int), .int .u8 (op : Int), .int .u8 (mv : Int), .string (bstr al)] w3.heap.size wb.heap.size (w3.heap.size + 1) ([] ++ [97] ++ [98]) none 0 [] W5 := by
    have hz5 : W5.heap.size = wb.heap.size + 1 := by rw [hW5, World.size_alloc]
    refine ⟨?_, ?_, ?_, Owns.nil _ _ _ _, hbb.size, by omega, by omega, by omega, by omega, by omega, Nat.le_refl _, ?_⟩
    · rw [hW5]; exact (hcW.of_heap (keep _ (by omega))).alloc _
    · rw [hW5]; exact RowAt.new wb _ _
    · rw [hW5]; exact m2.of_heap (Below.heap_alloc wb _ _ (by omega))
    · rw [hW5]; exact hbb.alloc hbb.size _
  have HMS := Lib.hid hms
  have HRUN1 := Lib.hid hW; have HW5 := Lib.hid hW5
  rw [hW] at run1'
  clear run1 run2 m1 m2 g1 g2 z1 z2 keep hbb hbW hcW hWz hms hW hW5
  have run0 : ∀ V : World, (Instr.makeMap 46 none).run Try.prog V = .ok (.map (some V.heap.size)) (V.alloc (.map #[] 0)) := fun V => by kernel_rfl
  go_wp2_with fail
  rw [← HW5.out]
  clear HW5 HRUN1 run0 run1' run2' HPK HG HK HB3
  have hpp : p ≤ 1000 := by omega
  have hpl2 : (p : Int) ≤ ((s.size - 1 : Nat) : Int) := by omega
  generalize W5.heap.size = B at *
  generalize wb.heap.size = pB at *
  generalize w3.heap.size = cB at *
  go_loopw [13] (fun v13 wr => ∃ (i : Nat) (a : Option Addr) (c : Nat) (P : List Int), i ≤ n ∧ v13 = .int .i64 i ∧ P.length = i ∧ Hid (∀ x ∈ P, 0 ≤ x ∧ x ≤ 1000) ∧ Hid (MS w B s (p : Nat) [.int .u8 (reg : Int), .int .i64 (nn : Int), .int .u8 (op : Int), .int .u8 (mv : Int), .string (bstr al)] cB pB (cB + 1) ([] ++ [97] ++ [98]) a c P wr)) (fun v13 _ => n - (intOf v13).toNat)
  case atStart => exact ⟨0, none, 0, [], by omega, rfl, rfl, Lib.hid (fun x hx => by cases hx), HMS⟩
  case round =>
    obtain ⟨i, a, c, P, hi, rfl, hPi, HP, HS⟩ := hrel
    have row := HS.out.pl
    have c0 := row.cell0 0 (by simp); have c1' := row.cell0 1 (by simp); have c2' := row.cell0 2 (by simp); have c3' := row.cell0 3 (by simp); have c4' := row.cell0 4 (by simp)
    have f4 := row.frozen0 4 (by simp)
    simp only [List.getElem_cons_zero, List.getElem_cons_succ] at c0 c1' c2' c3' c4'
    rw [hPi] at c4'
    clear row
    by_cases hlt : i < n
    · have hki : (i : Int) < (n : Int) := by omega
      obtain ⟨xa, rfl, hxb0, hxc0⟩ := HR.out i (by rw [HL.out]; exact hlt)
      have hxc := (HS.out.bel.cell (p := xa.add i) (by rw [Addr.add_block]; exact hxb0)).trans hxc0
      have hxb : xa.block < wr.heap.size := Nat.lt_of_lt_of_le hxb0 HS.out.bel.size
      clear hxc0
      generalize zs.getD i 0 = z at *
      have hv := pickN_lt z (s.size + 1) (by omega)
      have hp2 := fun w => pick_at z ((s.size : Int) + 1) (s.size + 1) w (by omega) (by omega) (by omega)
      generalize pickN z (s.size + 1) = v at *
      have HP2 := Lib.hid hp2
      have hw1 : IntKind.i64.wrap ((s.size : Int) + 1) = (s.size : Int) + 1 := by rw [IntKind.wrap_i64]; omega
      have hml : i + 1 ≤ maxLen := by unfold maxLen; omega
      have hby : (i + 1) * 8 ≤ 140737488355328 := by omega
      have hplt : pB < (wr.drew.alloc (.cells #[.int .i64 (v : Nat)] 3)).heap.size := by
        have h1 := HS.out.sz; have h2 := HS.out.pb; have h3 : wr.drew.heap.size = wr.heap.size := rfl
        rw [World.size_alloc]; omega
      have hpwr : pB < wr.heap.size := by have h1 := HS.out.sz; have h2 := HS.out.pb; omega
      have hxwr : xa.block < wr.heap.size := hxb
      have hbz : B ≤ (wr.drew.alloc (.cells #[.int .i64 (v : Nat)] 3)).heap.size := by
        have h1 := HS.out.sz; have h3 : wr.drew.heap.size = wr.heap.size := rfl
        rw [World.size_alloc]; omega
      have hpne : some pB ≠ blk a := by
        intro e
        cases a with
        | none => cases e
        | some x => have h1 := HS.out.ow.lt.1; have h2 := HS.out.pb; have e2 : pB = x.block := Option.some.inj e; omega
      have hown := HS.out.ow
      rw [hPi] at hown
      have hrow := HS.out.pl
      have HOWN := Lib.hid hown
      have hrun : ∀ V : World, (callFunc 14 #[.int .i64 z, .int .i64 ((s.size : Int) + 1)]).run Try.prog V = .ok (.enter 14 #[.int .i64 z, .int .i64 ((s.size : Int) + 1)]) V := fun V => by kernel_rfl
      clear hp2 hown
      go_wp2_with fail
      go_region_law (first
        | (refine step_pushN _ (by rfl) _ _ 34 (by rfl) B 3 (.int .i64 0) 1 8 Try.underlying34 infoI64 rfl (by decide) a i c _ (by rfl) (HOWN.out.drew.alloc _) wr.heap.size 1 1 (by decide) [.int .i64 (v : Nat)] (by rfl) (by simp [Value.oneCell']) (by rfl) (RowAt.new wr.drew 3 #[.int .i64 (v : Nat)]) hml hby hbz ?_; intro a' c' w' hown' hgrow hloc hex; have hrow' := RowAt.of_heap (hrow.drew.alloc _) (hgrow.block pB hplt hpne); have hq4 := hrow'.cell0 4 (by simp); have hqf := hrow'.frozen0 4 (by simp))
        | (refine step_call (by rfl) 14 #[.int .i64 z, .int .i64 ((s.size : Int) + 1)] (.int .i64 (v : Nat)) (by kernel_rfl) (HP2.out _) ?_))
      all_goals
        rw [← hPi] at hown'
        have hnx := HS.out.next (o := .cells #[.int .i64 (v : Nat)] 3) hown' hgrow hloc
        rw [hPi] at hnx
        have hpn : ∀ x ∈ P ++ [((v : Nat) : Int)], 0 ≤ x ∧ x ≤ 1000 := by
          intro x hx
          rcases List.mem_append.1 hx with hx | hx
          · exact HP.out x hx
          · rw [List.mem_singleton.1 hx]; omega
        have HNX := Lib.hid hnx; have HPN := Lib.hid hpn
        generalize w'.setCell ⟨pB, 4, none⟩ (.slice a' (i + 1) c') = w6 at *
        clear hnx hpn hown' hgrow hloc hex hrow' hq4 hqf hrow hplt hpne hbz hpwr hxwr c0 c1' c2' c3' c4' f4 hxc hrun
        go_wp2_with fail
        go_roundw
        case rel => exact ⟨i + 1, a', c', P ++ [((v : Nat) : Int)], by omega, by go_num, by rw [List.length_append, hPi]; rfl, HPN, HNX⟩
        case measure => simp [intOf]; omega
    · obtain rfl : i = n := by omega
      have hd9 : decide ((i : Int) < (i : Int)) = false := by simp
      by_cases hwt : what = 1
      · have hcm := HOK2.out hwt
        have HWT := Lib.hid hwt
        have e1 : ((what : Int) != 1) = false := by rw [bne_eq_false_iff_eq]; omega
        have rc := HS.out.cm
        have k0 := rc.cell0 0 (by simp); have k1 := rc.cell0 1 (by simp); have k2 := rc.cell0 2 (by simp); have k3 := rc.cell0 3 (by simp); have k4 := rc.cell0 4 (by simp)
        simp only [List.getElem_cons_zero, List.getElem_cons_succ] at k0 k1 k2 k3 k4
        have hsm : max ((s.size : Int) - 1) 0 = ((s.size - 1 : Nat) : Int) := by omega
        have hrdP : RdI wr a P := HS.out.ow.readsI.rd
        have hmkP := HS.out.mm
        have HRP := Lib.hid hrdP; have HMK := Lib.hid hmkP
        clear hrdP hmkP rc hwt
        obtain ⟨hn9, hcc⟩ := hcm
        simp only at hn9 hcc
        rcases hcc with ⟨rfl, o, rfl, hgo⟩ | ⟨rfl, hmv0, hmv⟩ | ⟨k, o, rfl, rfl, hko, hgk, hak⟩
        · have hmo : ∀ W, Calls Try.prog 25 #[.agg #[.int .u8 (reg : Int), .int .i64 (nn : Int), .int .u8 (o.toNat : Nat), .int .u8 0, .string (bstr al)]] W fun e w' => e = .returned (.bool (Keys.goes o)) ∧ Below W.heap.size W w' := fun W => by
            have h := Motion_any reg nn 0 o (bstr al) W (by omega)
            rw [show (decide ((0 : Nat) = 0) && Keys.goes o) = Keys.goes o by simp] at h
            exact h
          by_cases hg : Keys.goes o = true
          · rw [hg] at hmo
            have hGo := fun W (hb : Below wr.heap.size wr W) => Go_any o al hg (hgo hg) s (p : Nat) nn (cB + 1) ([] ++ [97] ++ [98]) a i c P W (by omega) (by omega) hpl2 hn9 (HMK.out.below hb HMK.out.lt) hPi (by omega) (HRP.out.below hb (Nat.le_refl _)) HP.out
            have HGO := Lib.hid hGo; have HMO := Lib.hid hmo
            clear hGo hmo hgo hg
            go_wp2_with fail
            refine (HMO.out _).mono ?_
            rintro e w6 ⟨rfl, hb6⟩
            have HB6 := Lib.hid hb6
            clear c0 c1' c2' c3' c4' f4 k0 k1 k2 k3 k4
            have rp6 := HS.out.pl.below hb6 (by have := HS.out.pb; have := HS.out.sz; omega)
            have rc6 := HS.out.cm.below hb6 (by have := HS.out.cb; have := HS.out.sz; omega)
            have p0 := rp6.cell0 0 (by simp); have p1 := rp6.cell0 1 (by simp); have p2 := rp6.cell0 2 (by simp); have p3 := rp6.cell0 3 (by simp); have p4 := rp6.cell0 4 (by simp)
            have k0 := rc6.cell0 0 (by simp); have k1 := rc6.cell0 1 (by simp); have k2 := rc6.cell0 2 (by simp); have k3 := rc6.cell0 3 (by simp); have k4 := rc6.cell0 4 (by simp)
            simp only [List.getElem_cons_zero, List.getElem_cons_succ] at p0 p1 p2 p3 p4 k0 k1 k2 k3 k4
            rw [hPi] at p4
            clear rp6 rc6
            clear hb6
            go_wp2_with fail
            refine (HGO.out w6 HB6.out).mono ?_
            rintro e w7 ⟨⟨dst, b, err, rfl, hc⟩, hb7⟩
            have hbw := HS.out.bel.trans ((HB6.out.trans (hb7.mono HB6.out.size)).mono HS.out.bel.size)
            clear p0 p1 p2 p3 p4 k0 k1 k2 k3 k4
            rcases hc with ⟨rfl, q0, q1⟩ | ⟨q, rfl⟩
            · have e2 : decide (0 ≤ dst) = true := decide_eq_true q0
              have e3 : decide (dst ≤ ((s.size - 1 : Nat) : Int)) = true := decide_eq_true q1
              go_wp2_with fail
              go_ret
              exact ⟨rfl, hbw⟩
            · go_wp2_with fail
              go_ret
              exact ⟨rfl, hbw⟩
          · have hgf : Keys.goes o = false := by simpa using hg
            rw [hgf] at hmo
            have HMO := Lib.hid hmo
            clear hmo hgo hg hgf
            go_wp2_with fail
            refine (HMO.out _).mono ?_
            rintro e w6 ⟨rfl, hb6⟩
            clear c0 c1' c2' c3' c4' f4 k0 k1 k2 k3 k4
            have rp6 := HS.out.pl.below hb6 (by have := HS.out.pb; have := HS.out.sz; omega)
            have rc6 := HS.out.cm.below hb6 (by have := HS.out.cb; have := HS.out.sz; omega)
            have p0 := rp6.cell0 0 (by simp); have p1 := rp6.cell0 1 (by simp); have p2 := rp6.cell0 2 (by simp); have p3 := rp6.cell0 3 (by simp); have p4 := rp6.cell0 4 (by simp)
            have k0 := rc6.cell0 0 (by simp); have k1 := rc6.cell0 1 (by simp); have k2 := rc6.cell0 2 (by simp); have k3 := rc6.cell0 3 (by simp); have k4 := rc6.cell0 4 (by simp)
            simp only [List.getElem_cons_zero, List.getElem_cons_succ] at p0 p1 p2 p3 p4 k0 k1 k2 k3 k4
            rw [hPi] at p4
            clear rp6 rc6
            have hbw := HS.out.bel.trans (hb6.mono HS.out.bel.size)
            clear hb6
            go_wp2_with fail
            go_ret
            exact ⟨rfl, hbw⟩
        · obtain ⟨o, rfl⟩ : ∃ o : UInt8, mv = o.toNat := ⟨UInt8.ofNat mv, by simp; omega⟩
          have hmo : ∀ W, Calls Try.prog 25 #[.agg #[.int .u8 (reg : Int), .int .i64 (nn : Int), .int .u8 (o.toNat : Nat), .int .u8 (o.toNat : Nat), .string (bstr al)]] W fun e w' => e = .returned (.bool false) ∧ Below W.heap.size W w' := fun W => by
            have h := Motion_any reg nn o.toNat o (bstr al) W hmv
            rw [show (decide (o.toNat = 0) && Keys.goes o) = false by simp [hmv0]] at h
            exact h
          have hsp := fun W => Span_rows s (p : Nat) reg nn o.toNat (bstr al) (some (cB + 1)) a i c W (by omega) (by omega) hpl2 hn9
          have e9 : ((o.toNat : Int) == 0) = false := by rw [beq_eq_false_iff_ne]; omega
          have e8 : ((o.toNat : Int) == (o.toNat : Int)) = true := by simp
          have HMO := Lib.hid hmo; have HSP := Lib.hid hsp
          clear hmo hsp hmv0
          generalize o.toNat = ov at *
          go_wp2_with fail
          refine (HMO.out _).mono ?_
          rintro e w6 ⟨rfl, hb6⟩
          have HB6 := Lib.hid hb6
          clear c0 c1' c2' c3' c4' f4 k0 k1 k2 k3 k4
          have rp6 := HS.out.pl.below hb6 (by have := HS.out.pb; have := HS.out.sz; omega)
          have rc6 := HS.out.cm.below hb6 (by have := HS.out.cb; have := HS.out.sz; omega)
          have p0 := rp6.cell0 0 (by simp); have p1 := rp6.cell0 1 (by simp); have p2 := rp6.cell0 2 (by simp); have p3 := rp6.cell0 3 (by simp); have p4 := rp6.cell0 4 (by simp)
          have k0 := rc6.cell0 0 (by simp); have k1 := rc6.cell0 1 (by simp); have k2 := rc6.cell0 2 (by simp); have k3 := rc6.cell0 3 (by simp); have k4 := rc6.cell0 4 (by simp)
          simp only [List.getElem_cons_zero, List.getElem_cons_succ] at p0 p1 p2 p3 p4 k0 k1 k2 k3 k4
          rw [hPi] at p4
          clear rp6 rc6
          clear hb6
          go_wp2_with fail
          refine (HSP.out w6).mono ?_
          rintro e w7 ⟨⟨x, y, err, rfl, hc⟩, hb7⟩
          have hbb := HB6.out.trans (hb7.mono HB6.out.size)
          have HBW := Lib.hid (HS.out.bel.trans (hbb.mono HS.out.bel.size))
          clear p0 p1 p2 p3 p4 k0 k1 k2 k3 k4
          have hcl : cB < w7.heap.size := by have h1 := hbb.size; have h2 := HS.out.cb; have h3 := HS.out.sz; omega
          have hpl7 : pB < w7.heap.size := by have h1 := hbb.size; have h2 := HS.out.pb; have h3 := HS.out.sz; omega
          have rp7 := HS.out.pl.below hbb (by have := HS.out.pb; have := HS.out.sz; omega)
          have rc7 := HS.out.cm.below hbb (by have := HS.out.cb; have := HS.out.sz; omega)
          have p0 := rp7.cell0 0 (by simp); have p1 := rp7.cell0 1 (by simp); have p2 := rp7.cell0 2 (by simp); have p3 := rp7.cell0 3 (by simp); have p4 := rp7.cell0 4 (by simp)
          have k0 := rc7.cell0 0 (by simp); have k1 := rc7.cell0 1 (by simp); have k2 := rc7.cell0 2 (by simp); have k3 := rc7.cell0 3 (by simp); have k4 := rc7.cell0 4 (by simp)
          simp only [List.getElem_cons_zero, List.getElem_cons_succ] at p0 p1 p2 p3 p4 k0 k1 k2 k3 k4
          rw [hPi] at p4
          clear rp7 rc7
          clear hbb hb7
          rcases hc with ⟨rfl, q0, q1, q2, q3⟩ | ⟨q, rfl⟩
          · have e2 : decide (0 ≤ x) = true := decide_eq_true q0
            have e3 : decide (x < y) = true := decide_eq_true q1
            have e4 : decide (y ≤ (s.size : Int)) = true := decide_eq_true q2
            go_wp2_with fail
            go_ret
            exact ⟨rfl, HBW.out.alloc HBW.out.size _⟩
          · go_wp2_with fail
            go_ret
            exact ⟨rfl, HBW.out.alloc HBW.out.size _⟩
        · have hmo : ∀ W, Calls Try.prog 25 #[.agg #[.int .u8 (reg : Int), .int .i64 (nn : Int), .int .u8 (o.toNat : Nat), .int .u8 (k.toNat : Nat), .string (bstr al)]] W fun e w' => e = .returned (.bool false) ∧ Below W.heap.size W w' := fun W => by
            have h := Motion_any reg nn k.toNat o (bstr al) W k.toNat_lt
            rw [show (decide (k.toNat = 0) && Keys.goes o) = false by simp [Keys.goes_ne k hgk]] at h
            exact h
          have hne : o.toNat ≠ k.toNat := fun h => hko (UInt8.toNat_inj.mp h.symm)
          have hsp := fun W (hb : Below wr.heap.size wr W) => Span_go k al hgk hak s (p : Nat) reg nn o.toNat hne (cB + 1) ([] ++ [97] ++ [98]) a i c P W (by omega) (by omega) hpl2 hn9 (HMK.out.below hb HMK.out.lt) hPi (by omega) (HRP.out.below hb (Nat.le_refl _)) HP.out
          have e9 : ((k.toNat : Int) == 0) = false := by rw [beq_eq_false_iff_ne]; have := Keys.goes_ne k hgk; omega
          have e8 : ((k.toNat : Int) == (o.toNat : Int)) = false := by rw [beq_eq_false_iff_ne]; omega
          have HMO := Lib.hid hmo; have HSP := Lib.hid hsp
          clear hmo hsp hne hko hgk hak
          generalize o.toNat = ov at *
          generalize k.toNat = kv at *
          go_wp2_with fail
          refine (HMO.out _).mono ?_
          rintro e w6 ⟨rfl, hb6⟩
          have HB6 := Lib.hid hb6
          clear c0 c1' c2' c3' c4' f4 k0 k1 k2 k3 k4
          have rp6 := HS.out.pl.below hb6 (by have := HS.out.pb; have := HS.out.sz; omega)
          have rc6 := HS.out.cm.below hb6 (by have := HS.out.cb; have := HS.out.sz; omega)
          have p0 := rp6.cell0 0 (by simp); have p1 := rp6.cell0 1 (by simp); have p2 := rp6.cell0 2 (by simp); have p3 := rp6.cell0 3 (by simp); have p4 := rp6.cell0 4 (by simp)
          have k0 := rc6.cell0 0 (by simp); have k1 := rc6.cell0 1 (by simp); have k2 := rc6.cell0 2 (by simp); have k3 := rc6.cell0 3 (by simp); have k4 := rc6.cell0 4 (by simp)
          simp only [List.getElem_cons_zero, List.getElem_cons_succ] at p0 p1 p2 p3 p4 k0 k1 k2 k3 k4
          rw [hPi] at p4
          clear rp6 rc6
          clear hb6
          go_wp2_with fail
          refine (HSP.out w6 HB6.out).mono ?_
          rintro e w7 ⟨⟨x, y, err, rfl, hc⟩, hb7⟩
          have hbb := HB6.out.trans (hb7.mono HB6.out.size)
          have HBW := Lib.hid (HS.out.bel.trans (hbb.mono HS.out.bel.size))
          clear p0 p1 p2 p3 p4 k0 k1 k2 k3 k4
          have hcl : cB < w7.heap.size := by have h1 := hbb.size; have h2 := HS.out.cb; have h3 := HS.out.sz; omega
          have hpl7 : pB < w7.heap.size := by have h1 := hbb.size; have h2 := HS.out.pb; have h3 := HS.out.sz; omega
          have rp7 := HS.out.pl.below hbb (by have := HS.out.pb; have := HS.out.sz; omega)
          have rc7 := HS.out.cm.below hbb (by have := HS.out.cb; have := HS.out.sz; omega)
          have p0 := rp7.cell0 0 (by simp); have p1 := rp7.cell0 1 (by simp); have p2 := rp7.cell0 2 (by simp); have p3 := rp7.cell0 3 (by simp); have p4 := rp7.cell0 4 (by simp)
          have k0 := rc7.cell0 0 (by simp); have k1 := rc7.cell0 1 (by simp); have k2 := rc7.cell0 2 (by simp); have k3 := rc7.cell0 3 (by simp); have k4 := rc7.cell0 4 (by simp)
          simp only [List.getElem_cons_zero, List.getElem_cons_succ] at p0 p1 p2 p3 p4 k0 k1 k2 k3 k4
          rw [hPi] at p4
          clear rp7 rc7
          clear hbb hb7
          rcases hc with ⟨rfl, q0, q1, q2, q3⟩ | ⟨q, rfl⟩
          · have e2 : decide (0 ≤ x) = true := decide_eq_true q0
            have e3 : decide (x < y) = true := decide_eq_true q1
            have e4 : decide (y ≤ (s.size : Int)) = true := decide_eq_true q2
            by_cases r1 : x = (p : Int)
            · have e5 : (x == (p : Int)) = true := by rw [beq_iff_eq]; exact r1
              have HR1 := Lib.hid r1
              clear r1 q3
              go_wp2_with fail
              go_ret
              exact ⟨rfl, HBW.out.alloc HBW.out.size _⟩
            have e5 : (x == (p : Int)) = false := by rw [beq_eq_false_iff_ne]; exact r1
            by_cases r2 : y = (p : Int)
            · have e6 : (y == (p : Int)) = true := by rw [beq_iff_eq]; exact r2
              have HR1 := Lib.hid r2
              clear r1 r2 q3
              go_wp2_with fail
              go_ret
              exact ⟨rfl, HBW.out.alloc HBW.out.size _⟩
            have e6 : (y == (p : Int)) = false := by rw [beq_eq_false_iff_ne]; exact r2
            have e7 : (y == (p : Int) + 1) = true := by
              rw [beq_iff_eq]
              rcases q3 with h | h | h | h
              · cases h
              · exact absurd h r1
              · exact absurd h r2
              · exact h
            clear r1 r2 q3
            go_wp2_with fail
            go_ret
            exact ⟨rfl, HBW.out.alloc HBW.out.size _⟩
          · go_wp2_with fail
            go_ret
            exact ⟨rfl, HBW.out.alloc HBW.out.size _⟩
      · have e1 : ((what : Int) != 1) = true := by rw [bne_iff_ne]; omega
        go_wp2_with fail
        go_ret
        exact ⟨rfl, HS.out.bel⟩
theorem MotionStays_walk (w : World) (s : ByteArray) (at_ : Int) (a : Option Addr) (n c : Nat) (zs : List Int) (K : ByteArray) (hs : s.size ≤ 140737488351232) (h1 : -9223372036854775808 ≤ at_) (h2 : at_ ≤ 9223372036854775807) (hz : IsInts .i64 w a n c zs) (hK : K.size ≤ 140737488351232) :
    Calls Try.prog 5 #[.string s, .int .i64 at_, .slice a n c, .string K] w fun e w' => e = .returned (.bool true) ∧ Below w.heap.size w w' := by
  by_cases h : 300 < s.size ∨ 20 < K.size ∨ 40 < n
  · exact MotionStays_long s K at_ a n c w h
  · exact MotionStays_in s K at_ a n c (zs.take n) w (by omega) (by omega) (by omega) hz.take_len hz.rd
end Go.Proofs.Ytenhblpegobbjaa
