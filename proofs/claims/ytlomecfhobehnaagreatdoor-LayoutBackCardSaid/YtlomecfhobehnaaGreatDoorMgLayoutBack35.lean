/- layout's reader: items. -/
import Derived.Deep.DeepCutAuto
import Derived.Deep.CutBlock
import Derived.Test.YtlomecfhobehnaaGreatDoorMgLayoutBack34
import Derived.Test.YtlomecfhobehnaaGreatDoorMgLayoutBack2
section
/- layout's reader: items. -/
namespace Go.Proofs.YtlomecfhobehnaaGreatDoor
open Go Go.RowKit
set_option linter.unusedVariables false
set_option linter.unusedSimpArgs false
open Rd
open Ly
theorem items_small {n : Nat} (h : n ≤ 400) : n + 1 ≤ maxLen ∧ (n + 1) * 88 ≤ 140737488355328 := nd_small h
theorem many_eqB (h : Tm.Hd) : Tm.manyB h = Tm.manyH h := by unfold Tm.manyB Tm.manyH; cases h.k <;> cases h.cnt <;> rfl
theorem many_cnt {h : Tm.Hd} (hm : Tm.manyB h = true) : ∃ c, h.cnt = some c := by
  cases hc : h.cnt with
  | some c => exact ⟨c, rfl⟩
  | none => unfold Tm.manyB at hm; rw [hc] at hm; cases hk : h.k <;> rw [hk] at hm <;> cases hm
theorem many_not_single {h : Tm.Hd} (hm : Tm.manyB h = true) : Tm.single h = false := by
  obtain ⟨c, hc⟩ := many_cnt hm
  rw [Tm.single_eq, hc]
  cases h.k <;> rfl
theorem nameB_len {w : Tm.Wd} (h : Tm.nameB w = true) : w.length ≤ 12 := by
  unfold Tm.nameB at h
  simp only [Bool.and_eq_true, decide_eq_true_eq] at h
  exact h.2
theorem single_yes {h : Tm.Hd} {wd : Tm.Wd} (hk : h.k = .scalar wd) (hm : Tm.manyB h = false) : Tm.single h = true := by
  rw [Tm.single_eq, hk]
  unfold Tm.manyB at hm
  rw [hk] at hm
  cases hc : h.cnt with
  | none => rfl
  | some c => rw [hc] at hm; cases hm
theorem single_no {h : Tm.Hd} (hk : (match h.k with | .scalar _ => False | _ => True)) : Tm.single h = false := by
  rw [Tm.single_eq]
  cases h9 : h.k with
  | scalar w => rw [h9] at hk; exact hk.elim
  | bytes => rfl
  | struct t => rfl
theorem lo_wrap {U w0 w : World} {rb fb b m n : Nat} {A : List Tm.Ty} {S : Sub} {s : Tm.Wd} {l : Tm.Its} {N0 N : Ex.Names} {st0 st2 : St} {i cap : Nat} {ks : Nds} {ga : Option Addr} {bl : List Nat} {vs : List Value} (h : LoS U w0 w rb fb b m n A S s l N0 st0 i N st2 ks ga cap bl vs) : wrap64 ((i : Int) + 1) = ((i + 1 : Nat) : Int) := by
  have h1 := h.few; have h2 := h.rd.lr.few
  exact (IntWalk.wrap64_in _ ⟨by omega, by omega⟩).trans (by omega)
set_option maxRecDepth 100000 in
set_option maxHeartbeats 4000000 in
theorem rditems_step (A : List Tm.Ty) (S : Sub) (s : Tm.Wd) (hs : s.length ≤ 1000000) (l : Tm.Its) (hF : Tm.FineI l) (hlen : l.len ≤ 100000) (hW : ∀ i a c b r, l.drop i = .when a c b r → ItsRd A S s b)
    (hSt : ∀ i h r t, l.drop i = .cons h r → h.k = .struct t → SubS A S s t) : ItsRd A S s l := by
  intro U w rb fb b m n cap ga bs N st hE ho hen
  obtain ⟨F, hFd⟩ : ∃ F, F = Value.map (some fb) := ⟨_, rfl⟩
  have hcap : l.len ≤ cap := own_cap ho
  obtain ⟨nl, hnl⟩ : ∃ nl, nl = l.len := ⟨_, rfl⟩
  rw [← hnl] at hcap hlen ho ⊢
  have HNL := Lib.hid hnl
  have h0 : LoS U w w rb fb b m n A S s l N st 0 N st .nil none 0 [] [] := LoS.start hE
  have H0 := Lib.hid h0
  have HO := Lib.hid ho; have HEN := Lib.hid hen; have HF := Lib.hid hF; have HW := Lib.hid hW; have HST := Lib.hid hSt
  clear hnl h0 ho hen hF hW hSt hE
  go_enter Tryz.func65, Tryz.ntmps65
  go_wp2_with fail
  go_loopw [7, 13] (fun v7 v13 wr => ∃ (i : Nat) (N2 : Ex.Names) (st2 : St) (ks : Nds) (g7 : Option Addr) (k7 : Nat) (bl : List Nat) (vs : List Value) (n2 : Nat), v7 = .slice g7 i k7 ∧ v13 = .int .i64 (i : Nat) ∧ i ≤ nl ∧ Hid (LoS U w wr rb fb b m n2 A S s l N st i N2 st2 ks g7 k7 bl vs)) (fun _ v13 _ => nl - (intOf v13).toNat)
  case atStart => exact ⟨0, N, st, .nil, none, 0, [], [], n, rfl, rfl, Nat.zero_le _, H0⟩
  case round =>
    obtain ⟨i, N2, st2, ks, g7, k7, bl, vs, n2, rfl, rfl, hi, HL⟩ := hrel
    clear H0
    by_cases hlt : i < nl
    · have hki : (i : Int) < (nl : Int) := by omega
      have q1 : decide ((i : Int) < (nl : Int)) = true := decide_eq_true hki
      have q2 : decide (i < nl) = true := decide_eq_true hlt
      have HLT := Lib.hid hlt
      obtain ⟨x, rfl⟩ : ∃ x, ga = some x := by
        cases ga with
        | none => have := HO.out.of_none.1; omega
        | some x => exact ⟨x, rfl⟩
      obtain ⟨gb, rfl⟩ : ∃ gb, x = ⟨gb, 0, none⟩ := ⟨x.block, HO.out.row.1⟩
      have HFD := Lib.hid (Tm.fine_drop i l HF.out)
      have ho2 := HO.out
      rw [HNL.out] at ho2
      rcases Tm.drop_lt l i (by rw [← HNL.out]; exact hlt) with ⟨h, r, hdr⟩ | ⟨a, c, bd, r, hdr⟩
      · obtain ⟨cv, hcv, hrow, hnx⟩ := Tm.EncI.hd ho2 HEN.out hdr
        rw [hdr] at HFD
        have hfh := HFD.out.1
        have hrw := hrow.below HL.out.rd.bel hrow.lt
        have HROW := Lib.hid hrw; have HCV := Lib.hid hcv; have HDR := Lib.hid hdr; have HNX := Lib.hid hnx; have HFH := Lib.hid hfh
        have hONE := one_hd A S s h hfh (fun t ht => HST.out i h r t hdr ht) hs U wr rb fb b m n2 N2 st2 gb (i * 13) cv HL.out.rd hrw hcv
        have c7 := hrw.cell 7 (by simp [Tm.hdCells_len])
        simp only [Tm.hdCells, List.getElem_cons_zero, List.getElem_cons_succ, Nat.add_zero] at c7
        have hgb : gb ≠ b := by
          rintro rfl
          exact absurd (hrw.ty HL.out.rd.lr.row) (by decide)
        have hgm : gb ≠ m := fun e => HL.out.rd.nm.ne hrw e.symm
        have HONE := Lib.hid hONE
        clear hrow hcv hdr hnx hfh hrw hlt hki hi ho2 hONE
        cases hmb : Tm.manyB h with
        | true =>
          rw [hmb] at c7
          obtain ⟨cx, hcx⟩ := many_cnt hmb
          have hcv := HCV.out
          rw [hcx] at hcv
          obtain ⟨cb, hcve, hxc⟩ := hcv
          have hrw := HROW.out
          rw [hcve] at hrw
          have HMA := Lib.hid (many_any b m n2 rb cb (.map (some fb)) s gb (i * 13) st2 S N2 h cx U wr HL.out.rd.lr hgb hs hcx (HFH.out.2.2.1 cx hcx).1.1 HL.out.rd.bel HL.out.rd.bU hxc HL.out.rd.nm HL.out.rd.ne.2 hrw HONE.out)
          have HHD := Lib.hid (show hdR S s N2 h st2 = lstH S s N2 h st2 by unfold hdR; rw [← many_eqB, hmb]; rfl)
          have HSG := Lib.hid (many_not_single hmb)
          clear hmb hrw hcve hxc hcx
          go_wp2_with fail
          refine HMA.out.mono ?_
          unfold OneOut
          rintro e w4 ⟨hb4, hv⟩
          cases hoh : lstH S s N2 h st2 with
          | none =>
            rw [hoh] at hv
            obtain ⟨t, v, he⟩ := hv
            unfold thrownL at he
            subst he
            have HO2 := Lib.hid (show itsR S s l N st = none by rw [HL.out.rep, HDR.out, its_hd_bad (HHD.out.trans hoh)]; rfl)
            have HB4 := Lib.hid hb4
            clear hb4 hoh
            go_wp2_with fail
            refine ⟨rfl, HL.out.but.trans HB4.out.wide, ?_⟩
            rw [HO2.out]
            exact ⟨t, v, rfl⟩
          | some p =>
            obtain ⟨d, st4⟩ := p
            rw [hoh] at hv
            obtain ⟨⟨v, b1, rfl, hd, hnd⟩, hl4, hat4, hn4⟩ := hv
            obtain ⟨g4, c4, rfl⟩ := hd.cells
            have hat5 : st2.at_ ≤ st4.at_ := hat4
            have hn5 : st2.n < st4.n := hn4
            have hown4 : Owns w4 w.heap.size 28 7 g7 i k7 vs := by
              have h9 := HL.out.kv.own
              rw [HL.out.len] at h9
              exact h9.keep fun x hx => hb4.block _ (h9.blk_lt x hx) (by have h8 := HL.out.kv.mem x.block (by rw [hx]; simp [blkL]); have h7 := HL.out.blt; omega) (fun e => by cases e)
            have HB4 := Lib.hid hb4; have HD4 := Lib.hid hd; have HND := Lib.hid hnd; have HL4 := Lib.hid hl4; have HAT := Lib.hid hat5; have HNN := Lib.hid hn5; have HO4 := Lib.hid hown4
            have HBS := Lib.hid (show w.heap.size ≤ w4.heap.size from Nat.le_trans HL.out.but.size hb4.size)
            have hh : hdR S s N2 h st2 = some (d, st4) := HHD.out.trans hoh
            have hstep : itsR S s (l.drop i) N2 st2 = (itsR S s (l.drop (i + 1)) N2 st4).map fun q => (d.put q.1, q.2) := by rw [HDR.out, its_hd hh, HSG.out, HNX.out]; rfl
            have HSTEP := Lib.hid hstep
            have HNM := Lib.hid (HL.out.rd.nm.keep (hb4.block m HL.out.rd.nm.lt HL.out.rd.ne.2 (fun e => by cases e)))
            clear hb4 hd hnd hl4 hat4 hn4 hat5 hn5 hoh hown4 hh hstep c7
            obtain ⟨hs1, hs2⟩ := items_small (show i ≤ 400 by have h1 := HL.out.few; have h2 := HL.out.rd.lr.few; omega)
            have hbase := HBS.out
            have hown5 := HO4.out
            go_wp2_with (with_reducible refine wpList_push w4 rfl _ _ 26 rfl w.heap.size 28 (.agg #[.string ByteArray.empty, .int .i64 0, .int .i64 0, .int .i64 0, .int .i64 0, .string ByteArray.empty, .slice none 0 0]) 7 88 Tryz.underlying26 infoNode rfl (by decide) g7 i k7 _ rfl hown5 [.string (bstr d.name), .int .i64 (d.kind : Nat), .int .i64 (d.at_ : Nat), .int .i64 (d.size : Nat), .int .i64 d.val, .string (bstr d.text), .slice g4 d.kids.len c4] rfl (by simp [Value.oneCell']) rfl hs1 hs2 hbase ?_; intro g8 k8 w6 hown6 hgrow6 hloc6 hsz6 hex6)
            have HL5 := Lib.hid (HL.out.push HSTEP.out HB4.out.wide HL4.out HNM.out (by have := HL.out.rd.few; have := HNN.out; omega) HD4.out HND.out HAT.out HNN.out hown6 hgrow6 (fun x hx => hloc6 x hx))
            clear hown6 hgrow6 hloc6 hsz6 hex6 hs1 hs2 hbase hown5
            go_wp2_with fail
            go_roundw
            case rel => exact ⟨i + 1, _, st4, _, g8, k8, _, _, _, rfl, by first | rfl | rw [lo_wrap HL.out], by have := HLT.out; omega, HL5⟩
            case measure => (try rw [lo_wrap HL.out]); simp only [intOf]; have := HLT.out; omega
        | false =>
          rw [hmb] at c7
          have HHD := Lib.hid (show hdR S s N2 h st2 = oneH S s N2 h st2 by unfold hdR; rw [← many_eqB, hmb]; rfl)
          have HC1 := Lib.hid (HONE.out wr st2 (But.refl _ _ _) HL.out.rd.lr)
          have HMB := Lib.hid hmb
          clear hmb
          go_wp2_with fail
          refine HC1.out.mono ?_
          unfold OneOut
          rintro e w4 ⟨hb4, hv⟩
          clear c7
          cases hoh : oneH S s N2 h st2 with
          | none =>
            rw [hoh] at hv
            obtain ⟨t, v, he⟩ := hv
            unfold thrownL at he
            subst he
            have HO2 := Lib.hid (show itsR S s l N st = none by rw [HL.out.rep, HDR.out, its_hd_bad (HHD.out.trans hoh)]; rfl)
            have HB4 := Lib.hid hb4
            clear hb4 hoh
            go_wp2_with fail
            refine ⟨rfl, HL.out.but.trans HB4.out.wide, ?_⟩
            rw [HO2.out]
            exact ⟨t, v, rfl⟩
          | some p =>
            obtain ⟨d, st4⟩ := p
            rw [hoh] at hv
            obtain ⟨⟨v, b1, rfl, hd, hnd⟩, hl4, hat4, hn4⟩ := hv
            obtain ⟨g4, c4, rfl⟩ := hd.cells
            have hat5 : st2.at_ ≤ st4.at_ := hat4
            have hn5 : st2.n < st4.n := hn4
            have hown4 : Owns w4 w.heap.size 28 7 g7 i k7 vs := by
              have h9 := HL.out.kv.own
              rw [HL.out.len] at h9
              exact h9.keep fun x hx => hb4.block _ (h9.blk_lt x hx) (by have h8 := HL.out.kv.mem x.block (by rw [hx]; simp [blkL]); have h7 := HL.out.blt; omega) (fun e => by cases e)
            have HB4 := Lib.hid hb4; have HD4 := Lib.hid hd; have HND := Lib.hid hnd; have HL4 := Lib.hid hl4; have HAT := Lib.hid hat5; have HNN := Lib.hid hn5; have HO4 := Lib.hid hown4
            have HBS := Lib.hid (show w.heap.size ≤ w4.heap.size from Nat.le_trans HL.out.but.size hb4.size)
            have hbx : RowAt (w4.alloc (.cells #[.string { data := #[] }, .int .i64 0, .int .i64 0, .int .i64 0, .int .i64 0, .string { data := #[] }, .slice none 0 0] 28)) w4.heap.size 0 28 [.string { data := #[] }, .int .i64 0, .int .i64 0, .int .i64 0, .int .i64 0, .string { data := #[] }, .slice none 0 0] := RowAt.new w4 28 #[.string { data := #[] }, .int .i64 0, .int .i64 0, .int .i64 0, .int .i64 0, .string { data := #[] }, .slice none 0 0]
            have y0 := hbx.cell0 0 (by simp); have z0 := hbx.frozen0 0 (by simp)
            have y1 := hbx.cell0 1 (by simp); have z1 := hbx.frozen0 1 (by simp)
            have y2 := hbx.cell0 2 (by simp); have z2 := hbx.frozen0 2 (by simp)
            have y3 := hbx.cell0 3 (by simp); have z3 := hbx.frozen0 3 (by simp)
            have y4 := hbx.cell0 4 (by simp); have z4 := hbx.frozen0 4 (by simp)
            have y5 := hbx.cell0 5 (by simp); have z5 := hbx.frozen0 5 (by simp)
            have y6 := hbx.cell0 6 (by simp); have z6 := hbx.frozen0 6 (by simp)
            simp only [List.getElem_cons_zero, List.getElem_cons_succ] at y0 y1 y2 y3 y4 y5 y6
            obtain ⟨V, hV⟩ : ∃ V, V = w4.alloc (.cells #[.string (bstr d.name), .int .i64 (d.kind : Nat), .int .i64 (d.at_ : Nat), .int .i64 (d.size : Nat), .int .i64 d.val, .string (bstr d.text), .slice g4 d.kids.len c4] 28) := ⟨_, rfl⟩
            have hvb : Below w4.heap.size w4 V := by rw [hV]; exact (Below.refl _ _).alloc (Nat.le_refl _) _
            have hrV : RowAt V gb (i * 13) 70 (Tm.hdCells h cv) := (HROW.out.of_heap (HB4.out.block gb HROW.out.lt hgb (fun e => by cases e))).below hvb (Nat.lt_of_lt_of_le HROW.out.lt HB4.out.size)
            have hboxV : RowAt V w4.heap.size 0 28 [.string (bstr d.name), .int .i64 (d.kind : Nat), .int .i64 (d.at_ : Nat), .int .i64 (d.size : Nat), .int .i64 d.val, .string (bstr d.text), .slice g4 d.kids.len c4] := by rw [hV]; exact RowAt.new w4 _ _
            have k0 := hrV.cell 0 (by simp [Tm.hdCells_len])
            have hd6 : NdV V wr.heap.size b1 d (.agg ([.string (bstr d.name), .int .i64 (d.kind : Nat), .int .i64 (d.at_ : Nat), .int .i64 (d.size : Nat), .int .i64 d.val, .string (bstr d.text), .slice g4 d.kids.len c4]).toArray) := hd.keep fun g hg => hvb.block g (hd.mem g hg).2
            have HD6 := Lib.hid hd6
            have HO6 := Lib.hid (hown4.below hvb (Nat.le_refl _))
            have HBS6 := Lib.hid (show w.heap.size ≤ V.heap.size from Nat.le_trans HBS.out hvb.size)
            have HL6 := Lib.hid (show LR V b (.map (some fb)) s st4 from hl4.keep (hvb.block b hl4.row.lt))
            have HBOX := Lib.hid hboxV
            have hh : hdR S s N2 h st2 = some (d, st4) := HHD.out.trans hoh
            have hstep : itsR S s (l.drop i) N2 st2 = (itsR S s (l.drop (i + 1)) (if Tm.single h then upd N2 h.name d.val else N2) st4).map fun q => (d.put q.1, q.2) := by rw [HDR.out, its_hd hh, HNX.out]
            have hnmV : NmM V m n2 N2 := (HL.out.rd.nm.keep (hb4.block m HL.out.rd.nm.lt HL.out.rd.ne.2 (fun e => by cases e))).keep (hvb.block m (Nat.lt_of_lt_of_le HL.out.rd.nm.lt hb4.size))
            have HNMV := Lib.hid hnmV
            have HBV := Lib.hid (show But wr V b none from hb4.trans (But.of_below hvb))
            have HVS := Lib.hid (show w4.heap.size < V.heap.size by rw [hV]; simp)
            have HV := Lib.hid hV
            have HOH := Lib.hid hoh
            cases hk : h.k with
            | scalar wd =>
              have hkw : (Tm.kindOf wd).isSome = true := by have := HFH.out.1; rw [hk] at this; exact this
              have hval : Ex.InR d.val := one_val hk hkw hoh
              have hsg : Tm.single h = true := single_yes hk HMB.out
              rw [hsg] at hstep
              have HSTEP := Lib.hid (show itsR S s (l.drop i) N2 st2 = (itsR S s (l.drop (i + 1)) (upd N2 h.name d.val) st4).map fun q => (d.put q.1, q.2) from hstep)
              have HVAL := Lib.hid hval
              have hnl2 : h.name.length ≤ 1000 := by have := nameB_len HFH.out.2.1.2; omega
              have HNL2 := Lib.hid hnl2
              simp only [Tm.hdCells, hk, Tm.kindN, List.getElem_cons_zero, List.getElem_cons_succ, Nat.add_zero] at k0
              have k2 := hrV.cell 2 (by simp [Tm.hdCells_len])
              simp only [Tm.hdCells, List.getElem_cons_zero, List.getElem_cons_succ] at k2
              have v4 := hboxV.cell0 4 (by simp)
              simp only [List.getElem_cons_zero, List.getElem_cons_succ] at v4
              rw [hV] at k0 k2 v4
              clear hb4 hd hnd hl4 hat4 hn4 hat5 hn5 hoh hown4 hh hstep hbx hrV hboxV hd6 hnmV hkw hval hsg hnl2 hV hvb hk
              go_wp2_with fail
              rw [← HV.out] at k0 k2 v4 ⊢
              go_still_tail 7, (by kernel_rfl)
              change wpList _ _ _ _ _ V.drew
              refine wpList_storeM V.drew rfl _ _ _ rfl m n2 N2 rfl (HNMV.out.keep (w' := V.drew) rfl) (by have h1 := HL.out.rd.few; have h2 := HL.out.rd.lr.few; show n2 < 9223372036854775807; omega) h.name HNL2.out d.val HVAL.out rfl rfl ?_
              intro w6 hm6 hg6
              clear k0 k2 v4 y0 y1 y2 y3 y4 y5 y6 z0 z1 z2 z3 z4 z5 z6
              have hm0 := HL.out.mlt
              have hw0 := HL.out.but.size
              have hw4 := HB4.out.size
              have hk6 : ∀ g, g < V.heap.size → g ≠ m → w6.heap[g]? = V.heap[g]? := fun g h1 h2 => hg6.block g h1 (fun e => by injection e with e; exact h2 e)
              have hbox6 : RowAt w6 w4.heap.size 0 28 [.string (bstr d.name), .int .i64 (d.kind : Nat), .int .i64 (d.at_ : Nat), .int .i64 (d.size : Nat), .int .i64 d.val, .string (bstr d.text), .slice g4 d.kids.len c4] := HBOX.out.of_heap (hk6 _ HVS.out (by omega))
              replace HBOX := Lib.hid hbox6
              have hd7 : NdV w6 wr.heap.size b1 d (.agg ([.string (bstr d.name), .int .i64 (d.kind : Nat), .int .i64 (d.at_ : Nat), .int .i64 (d.size : Nat), .int .i64 d.val, .string (bstr d.text), .slice g4 d.kids.len c4]).toArray) := HD6.out.keep fun g hg => hk6 g (HD6.out.mem g hg).2 (by have := (HD6.out.mem g hg).1; omega)
              replace HD6 := Lib.hid hd7
              have ho7 := HO6.out.keep (w' := w6) fun x hx => hk6 _ (HO6.out.blk_lt x hx) (by have := HL.out.kv.mem x.block (by rw [hx]; simp [blkL]); omega)
              replace HO6 := Lib.hid ho7
              replace HL6 := Lib.hid (show LR w6 b (.map (some fb)) s st4 from HL6.out.keep (hk6 b HL6.out.row.lt (Ne.symm HL.out.rd.ne.2)))
              have HB6 := Lib.hid (show But wr w6 b (some m) from HBV.out.wide.trans ⟨hg6.os, hg6.tape, hg6.output, hg6.size, fun g h1 h2 h3 => hg6.block g h1 (fun e => h3 e)⟩)
              have HNM6 := Lib.hid hm6
              have HN6 := Lib.hid (show n2 + 1 ≤ st4.n by have h1 := HL.out.rd.few; have h2 := HNN.out; omega)
              replace HBS6 := Lib.hid (show w.heap.size ≤ w6.heap.size from Nat.le_trans HBS6.out hg6.size)
              clear hm6 hg6 hk6 hbox6 hd7 ho7 hm0 hw0 hw4
              have r0 := HBOX.out.cell0 0 (by simp); have r1 := HBOX.out.cell0 1 (by simp); have r2 := HBOX.out.cell0 2 (by simp); have r3 := HBOX.out.cell0 3 (by simp); have r4 := HBOX.out.cell0 4 (by simp); have r5 := HBOX.out.cell0 5 (by simp); have r6 := HBOX.out.cell0 6 (by simp)
              simp only [List.getElem_cons_zero, List.getElem_cons_succ] at r0 r1 r2 r3 r4 r5 r6
              have hown5 := HO6.out
              have hbase := HBS6.out
              obtain ⟨hs1, hs2⟩ := items_small (show i ≤ 400 by have h1 := HL.out.few; have h2 := HL.out.rd.lr.few; omega)
              go_wp2_with (with_reducible refine wpList_push w6 rfl _ _ 26 rfl w.heap.size 28 (.agg #[.string ByteArray.empty, .int .i64 0, .int .i64 0, .int .i64 0, .int .i64 0, .string ByteArray.empty, .slice none 0 0]) 7 88 Tryz.underlying26 infoNode rfl (by decide) g7 i k7 _ rfl hown5 [.string (bstr d.name), .int .i64 (d.kind : Nat), .int .i64 (d.at_ : Nat), .int .i64 (d.size : Nat), .int .i64 d.val, .string (bstr d.text), .slice g4 d.kids.len c4] rfl (by simp [Value.oneCell']) rfl hs1 hs2 hbase ?_; intro g8 k8 w6 hown6 hgrow6 hloc6 hsz6 hex6)
              have HL5 := Lib.hid (HL.out.push HSTEP.out HB6.out HL6.out HNM6.out HN6.out HD6.out HND.out HAT.out HNN.out hown6 hgrow6 (fun x hx => hloc6 x hx))
              clear hown6 hgrow6 hloc6 hsz6 hex6 hs1 hs2 hbase hown5
              clear r0 r1 r2 r3 r4 r5 r6
              go_wp2_with fail
              go_roundw
              case rel => exact ⟨i + 1, _, st4, _, g8, k8, _, _, _, rfl, by first | rfl | rw [lo_wrap HL.out], by have := HLT.out; omega, HL5⟩
              case measure => (try rw [lo_wrap HL.out]); simp only [intOf]; have := HLT.out; omega
            | bytes =>
              have hsg : Tm.single h = false := single_no (by rw [hk]; trivial)
              rw [hsg] at hstep
              have HSTEP := Lib.hid (show itsR S s (l.drop i) N2 st2 = (itsR S s (l.drop (i + 1)) N2 st4).map fun q => (d.put q.1, q.2) from hstep)
              simp only [Tm.hdCells, hk, Tm.kindN, List.getElem_cons_zero, List.getElem_cons_succ, Nat.add_zero] at k0
              rw [hV] at k0
              have HB6 := Lib.hid (show But wr V b (some m) from HBV.out.wide)
              have HNM6 := HNMV
              have HN6 := Lib.hid (show n2 ≤ st4.n by have h1 := HL.out.rd.few; have h2 := HNN.out; omega)
              clear hb4 hd hnd hl4 hat4 hn4 hat5 hn5 hoh hown4 hh hstep hbx hrV hboxV hd6 hnmV hsg hvb hk
              have r0 := HBOX.out.cell0 0 (by simp); have r1 := HBOX.out.cell0 1 (by simp); have r2 := HBOX.out.cell0 2 (by simp); have r3 := HBOX.out.cell0 3 (by simp); have r4 := HBOX.out.cell0 4 (by simp); have r5 := HBOX.out.cell0 5 (by simp); have r6 := HBOX.out.cell0 6 (by simp)
              simp only [List.getElem_cons_zero, List.getElem_cons_succ] at r0 r1 r2 r3 r4 r5 r6
              rw [hV] at r0 r1 r2 r3 r4 r5 r6
              clear hV
              have hown5 := HO6.out
              have hbase := HBS6.out
              obtain ⟨hs1, hs2⟩ := items_small (show i ≤ 400 by have h1 := HL.out.few; have h2 := HL.out.rd.lr.few; omega)
              go_upto_region 11 with fail
              rw [← HV.out] at r0 r1 r2 r3 r4 r5 r6 ⊢
              go_wp2_with (with_reducible refine wpList_push V rfl _ _ 26 rfl w.heap.size 28 (.agg #[.string ByteArray.empty, .int .i64 0, .int .i64 0, .int .i64 0, .int .i64 0, .string ByteArray.empty, .slice none 0 0]) 7 88 Tryz.underlying26 infoNode rfl (by decide) g7 i k7 _ rfl hown5 [.string (bstr d.name), .int .i64 (d.kind : Nat), .int .i64 (d.at_ : Nat), .int .i64 (d.size : Nat), .int .i64 d.val, .string (bstr d.text), .slice g4 d.kids.len c4] rfl (by simp [Value.oneCell']) rfl hs1 hs2 hbase ?_; intro g8 k8 w6 hown6 hgrow6 hloc6 hsz6 hex6)
              have HL5 := Lib.hid (HL.out.push HSTEP.out HB6.out HL6.out HNM6.out HN6.out HD6.out HND.out HAT.out HNN.out hown6 hgrow6 (fun x hx => hloc6 x hx))
              clear hown6 hgrow6 hloc6 hsz6 hex6 hs1 hs2 hbase hown5
              clear r0 r1 r2 r3 r4 r5 r6
              go_wp2_with fail
              go_roundw
              case rel => exact ⟨i + 1, _, st4, _, g8, k8, _, _, _, rfl, by first | rfl | rw [lo_wrap HL.out], by have := HLT.out; omega, HL5⟩
              case measure => (try rw [lo_wrap HL.out]); simp only [intOf]; have := HLT.out; omega
            | struct t =>
              have hsg : Tm.single h = false := single_no (by rw [hk]; trivial)
              rw [hsg] at hstep
              have HSTEP := Lib.hid (show itsR S s (l.drop i) N2 st2 = (itsR S s (l.drop (i + 1)) N2 st4).map fun q => (d.put q.1, q.2) from hstep)
              simp only [Tm.hdCells, hk, Tm.kindN, List.getElem_cons_zero, List.getElem_cons_succ, Nat.add_zero] at k0
              rw [hV] at k0
              have HB6 := Lib.hid (show But wr V b (some m) from HBV.out.wide)
              have HNM6 := HNMV
              have HN6 := Lib.hid (show n2 ≤ st4.n by have h1 := HL.out.rd.few; have h2 := HNN.out; omega)
              clear hb4 hd hnd hl4 hat4 hn4 hat5 hn5 hoh hown4 hh hstep hbx hrV hboxV hd6 hnmV hsg hvb hk
              have r0 := HBOX.out.cell0 0 (by simp); have r1 := HBOX.out.cell0 1 (by simp); have r2 := HBOX.out.cell0 2 (by simp); have r3 := HBOX.out.cell0 3 (by simp); have r4 := HBOX.out.cell0 4 (by simp); have r5 := HBOX.out.cell0 5 (by simp); have r6 := HBOX.out.cell0 6 (by simp)
              simp only [List.getElem_cons_zero, List.getElem_cons_succ] at r0 r1 r2 r3 r4 r5 r6
              rw [hV] at r0 r1 r2 r3 r4 r5 r6
              clear hV
              have hown5 := HO6.out
              have hbase := HBS6.out
              obtain ⟨hs1, hs2⟩ := items_small (show i ≤ 400 by have h1 := HL.out.few; have h2 := HL.out.rd.lr.few; omega)
              go_upto_region 11 with fail
              rw [← HV.out] at r0 r1 r2 r3 r4 r5 r6 ⊢
              go_wp2_with (with_reducible refine wpList_push V rfl _ _ 26 rfl w.heap.size 28 (.agg #[.string ByteArray.empty, .int .i64 0, .int .i64 0, .int .i64 0, .int .i64 0, .string ByteArray.empty, .slice none 0 0]) 7 88 Tryz.underlying26 infoNode rfl (by decide) g7 i k7 _ rfl hown5 [.string (bstr d.name), .int .i64 (d.kind : Nat), .int .i64 (d.at_ : Nat), .int .i64 (d.size : Nat), .int .i64 d.val, .string (bstr d.text), .slice g4 d.kids.len c4] rfl (by simp [Value.oneCell']) rfl hs1 hs2 hbase ?_; intro g8 k8 w6 hown6 hgrow6 hloc6 hsz6 hex6)
              have HL5 := Lib.hid (HL.out.push HSTEP.out HB6.out HL6.out HNM6.out HN6.out HD6.out HND.out HAT.out HNN.out hown6 hgrow6 (fun x hx => hloc6 x hx))
              clear hown6 hgrow6 hloc6 hsz6 hex6 hs1 hs2 hbase hown5
              clear r0 r1 r2 r3 r4 r5 r6
              go_wp2_with fail
              go_roundw
              case rel => exact ⟨i + 1, _, st4, _, g8, k8, _, _, _, rfl, by first | rfl | rw [lo_wrap HL.out], by have := HLT.out; omega, HL5⟩
              case measure => (try rw [lo_wrap HL.out]); simp only [intOf]; have := HLT.out; omega
      · obtain ⟨cb, gc, capc, bsc, hxc, hoc, hec, hrow, hnx⟩ := Tm.EncI.wh ho2 HEN.out hdr
        rw [hdr] at HFD
        have hfx := HFD.out.1
        have hrw := hrow.below HL.out.rd.bel hrow.lt
        have HROW := Lib.hid hrw; have HDR := Lib.hid hdr; have HNX := Lib.hid hnx
        have HWH := Lib.hid (one_when A S s bd (HW.out i a c bd r hdr) b m n2 rb fb cb a gb (i * 13) st2 N2 c gc capc bsc U wr HL.out.rd hs hfx.1 hxc hoc hec hrw)
        have c7 := hrw.cell 7 (by simp [Tm.whenCells_len])
        simp only [Tm.whenCells, List.getElem_cons_zero, List.getElem_cons_succ, Nat.add_zero] at c7
        have hgb : gb ≠ b := by
          rintro rfl
          exact absurd (hrw.ty HL.out.rd.lr.row) (by decide)
        have hgm : gb ≠ m := fun e => HL.out.rd.nm.ne hrw e.symm
        clear hrow hdr hnx hrw hlt hki hi ho2 hxc hoc hec hfx
        go_wp2_with fail
        refine HWH.out.mono ?_
        unfold WhenOut
        rintro e w4 ⟨hb4, hv⟩
        clear c7
        cases hoh : whenR S s N2 c bd st2 with
        | none =>
          rw [hoh] at hv
          obtain ⟨t, v, he⟩ := hv
          unfold thrownL at he
          subst he
          have HO2 := Lib.hid (show itsR S s l N st = none by rw [HL.out.rep, HDR.out, its_when, hoh]; rfl)
          have HB4 := Lib.hid hb4
          clear hb4 hoh
          go_wp2_with fail
          refine ⟨rfl, HL.out.but.trans HB4.out, ?_⟩
          rw [HO2.out]
          exact ⟨t, v, rfl⟩
        | some p =>
          obtain ⟨d, N4, st4⟩ := p
          rw [hoh] at hv
          obtain ⟨⟨v, b1, rfl, hd, hnd⟩, hl4, ⟨hat4, hn4⟩, n4, hN4, hn44⟩ := hv
          obtain ⟨g4, c4, rfl⟩ := hd.cells
          have hat5 : st2.at_ ≤ st4.at_ := hat4
          have hn5 : st2.n < st4.n := hn4
          have hown4 : Owns w4 w.heap.size 28 7 g7 i k7 vs := by
            have h9 := HL.out.kv.own
            rw [HL.out.len] at h9
            exact h9.keep fun x hx => hb4.block _ (h9.blk_lt x hx) (by have h8 := HL.out.kv.mem x.block (by rw [hx]; simp [blkL]); have h7 := HL.out.blt; omega) (fun e => by injection e with e; have h8 := HL.out.kv.mem x.block (by rw [hx]; simp [blkL]); have h7 := HL.out.mlt; omega)
          have HB4 := Lib.hid hb4; have HD4 := Lib.hid hd; have HND := Lib.hid hnd; have HL4 := Lib.hid hl4; have HAT := Lib.hid hat5; have HNN := Lib.hid hn5; have HO4 := Lib.hid hown4
          have HBS := Lib.hid (show w.heap.size ≤ w4.heap.size from Nat.le_trans HL.out.but.size hb4.size)
          have hbx : RowAt (w4.alloc (.cells #[.string { data := #[] }, .int .i64 0, .int .i64 0, .int .i64 0, .int .i64 0, .string { data := #[] }, .slice none 0 0] 28)) w4.heap.size 0 28 [.string { data := #[] }, .int .i64 0, .int .i64 0, .int .i64 0, .int .i64 0, .string { data := #[] }, .slice none 0 0] := RowAt.new w4 28 #[.string { data := #[] }, .int .i64 0, .int .i64 0, .int .i64 0, .int .i64 0, .string { data := #[] }, .slice none 0 0]
          have y0 := hbx.cell0 0 (by simp); have z0 := hbx.frozen0 0 (by simp)
          have y1 := hbx.cell0 1 (by simp); have z1 := hbx.frozen0 1 (by simp)
          have y2 := hbx.cell0 2 (by simp); have z2 := hbx.frozen0 2 (by simp)
          have y3 := hbx.cell0 3 (by simp); have z3 := hbx.frozen0 3 (by simp)
          have y4 := hbx.cell0 4 (by simp); have z4 := hbx.frozen0 4 (by simp)
          have y5 := hbx.cell0 5 (by simp); have z5 := hbx.frozen0 5 (by simp)
          have y6 := hbx.cell0 6 (by simp); have z6 := hbx.frozen0 6 (by simp)
          simp only [List.getElem_cons_zero, List.getElem_cons_succ] at y0 y1 y2 y3 y4 y5 y6
          obtain ⟨V, hV⟩ : ∃ V, V = w4.alloc (.cells #[.string (bstr d.name), .int .i64 (d.kind : Nat), .int .i64 (d.at_ : Nat), .int .i64 (d.size : Nat), .int .i64 d.val, .string (bstr d.text), .slice g4 d.kids.len c4] 28) := ⟨_, rfl⟩
          have hvb : Below w4.heap.size w4 V := by rw [hV]; exact (Below.refl _ _).alloc (Nat.le_refl _) _
          have hrV : RowAt V gb (i * 13) 70 (Tm.whenCells a (.pointer (some ⟨cb, 0, none⟩)) (.slice gc bd.len capc)) := (HROW.out.of_heap (HB4.out.block gb HROW.out.lt hgb (fun e => by injection e with e; exact hgm e))).below hvb (Nat.lt_of_lt_of_le HROW.out.lt HB4.out.size)
          have hboxV : RowAt V w4.heap.size 0 28 [.string (bstr d.name), .int .i64 (d.kind : Nat), .int .i64 (d.at_ : Nat), .int .i64 (d.size : Nat), .int .i64 d.val, .string (bstr d.text), .slice g4 d.kids.len c4] := by rw [hV]; exact RowAt.new w4 _ _
          have k0 := hrV.cell 0 (by simp [Tm.whenCells_len])
          have hd6 : NdV V wr.heap.size b1 d (.agg ([.string (bstr d.name), .int .i64 (d.kind : Nat), .int .i64 (d.at_ : Nat), .int .i64 (d.size : Nat), .int .i64 d.val, .string (bstr d.text), .slice g4 d.kids.len c4]).toArray) := hd.keep fun g hg => hvb.block g (hd.mem g hg).2
          have HD6 := Lib.hid hd6
          have HO6 := Lib.hid (hown4.below hvb (Nat.le_refl _))
          have HBS6 := Lib.hid (show w.heap.size ≤ V.heap.size from Nat.le_trans HBS.out hvb.size)
          have HL6 := Lib.hid (show LR V b (.map (some fb)) s st4 from hl4.keep (hvb.block b hl4.row.lt))
          have HBOX := Lib.hid hboxV
          have HSTEP := Lib.hid (show itsR S s (l.drop i) N2 st2 = (itsR S s (l.drop (i + 1)) N4 st4).map fun q => (d.put q.1, q.2) by rw [HDR.out, its_when, hoh, HNX.out]; rfl)
          have HNM6 := Lib.hid (show NmM V m n4 N4 from hN4.keep (hvb.block m hN4.lt))
          have HB6 := Lib.hid (show But wr V b (some m) from hb4.trans (But.of_below hvb))
          have HN6 := Lib.hid (show n4 ≤ st4.n from hn44)
          have HV := Lib.hid hV
          simp only [Tm.whenCells, List.getElem_cons_zero, List.getElem_cons_succ, Nat.add_zero] at k0
          rw [hV] at k0
          clear hb4 hd hnd hl4 hat4 hn4 hat5 hn5 hoh hown4 hbx hrV hboxV hd6 hvb hN4 hn44
          have r0 := HBOX.out.cell0 0 (by simp); have r1 := HBOX.out.cell0 1 (by simp); have r2 := HBOX.out.cell0 2 (by simp); have r3 := HBOX.out.cell0 3 (by simp); have r4 := HBOX.out.cell0 4 (by simp); have r5 := HBOX.out.cell0 5 (by simp); have r6 := HBOX.out.cell0 6 (by simp)
          simp only [List.getElem_cons_zero, List.getElem_cons_succ] at r0 r1 r2 r3 r4 r5 r6
          rw [hV] at r0 r1 r2 r3 r4 r5 r6
          clear hV
          have hown5 := HO6.out
          have hbase := HBS6.out
          obtain ⟨hs1, hs2⟩ := items_small (show i ≤ 400 by have h1 := HL.out.few; have h2 := HL.out.rd.lr.few; omega)
          go_upto_region 11 with fail
          rw [← HV.out] at r0 r1 r2 r3 r4 r5 r6 ⊢
          go_wp2_with (with_reducible refine wpList_push V rfl _ _ 26 rfl w.heap.size 28 (.agg #[.string ByteArray.empty, .int .i64 0, .int .i64 0, .int .i64 0, .int .i64 0, .string ByteArray.empty, .slice none 0 0]) 7 88 Tryz.underlying26 infoNode rfl (by decide) g7 i k7 _ rfl hown5 [.string (bstr d.name), .int .i64 (d.kind : Nat), .int .i64 (d.at_ : Nat), .int .i64 (d.size : Nat), .int .i64 d.val, .string (bstr d.text), .slice g4 d.kids.len c4] rfl (by simp [Value.oneCell']) rfl hs1 hs2 hbase ?_; intro g8 k8 w6 hown6 hgrow6 hloc6 hsz6 hex6)
          have HL5 := Lib.hid (HL.out.push HSTEP.out HB6.out HL6.out HNM6.out HN6.out HD6.out HND.out HAT.out HNN.out hown6 hgrow6 (fun x hx => hloc6 x hx))
          clear hown6 hgrow6 hloc6 hsz6 hex6 hs1 hs2 hbase hown5
          clear r0 r1 r2 r3 r4 r5 r6
          go_wp2_with fail
          go_roundw
          case rel => exact ⟨i + 1, _, st4, _, g8, k8, _, _, _, rfl, by first | rfl | rw [lo_wrap HL.out], by have := HLT.out; omega, HL5⟩
          case measure => (try rw [lo_wrap HL.out]); simp only [intOf]; have := HLT.out; omega
    · have q1 : decide ((i : Int) < (nl : Int)) = false := decide_eq_false (by omega)
      have q2 : decide (i < nl) = false := decide_eq_false hlt
      have HEQ := Lib.hid (show i = nl by omega)
      have HO2 := Lib.hid (show itsR S s l N st = some (ks, N2, st2) by
        rw [HL.out.rep, HEQ.out, HNL.out, Tm.drop_len]
        show some (ks.app .nil, N2, st2) = _
        rw [Nds.app_nil])
      clear hlt hi
      go_wp2_with fail
      go_ret
      refine ⟨HL.out.but, ?_⟩
      rw [HO2.out]
      refine ⟨⟨g7, k7, bl, vs, ?_, HL.out.kv⟩, HL.out.rd.lr, ⟨HL.out.at_, ?_⟩, n2, HL.out.rd.nm, HL.out.rd.few⟩
      · show _ = Ending.returned (.slice g7 ks.len k7)
        rw [HL.out.len]
        rfl
      · show st.n + ks.len ≤ st2.n
        rw [HL.out.len]
        exact HL.out.few
end Go.Proofs.YtlomecfhobehnaaGreatDoor
end
