/- Contract of huff.Lens: the walk. -/
import Derived.Test.YtenhblpegobbjaaHuffC
namespace Go.Proofs.Ytenhblpegobbjaa
open Go.RowKit
set_option linter.unusedVariables false
set_option linter.unusedSimpArgs false
open Huff
set_option maxRecDepth 100000 in
set_option maxHeartbeats 4000000 in
theorem Lens_ok (a : Option Addr) (n c : Nat) (L : List Int) (C : List Nat) (w : World) (hr : RdI w a L) (hl : L.length = n) (hn : n ≤ 256) (hC : C = L.map Int.toNat) (hL : ∀ x ∈ L, 0 ≤ x ∧ x ≤ 1099511627776) :
    Calls Try.prog 37 #[.slice a n c] w (LensOk C n w) := by
  have hlc : C.length = n := by rw [hC, List.length_map, hl]
  have hget : ∀ k, k < n → L.getD k 0 = ((C.getD k 0 : Nat) : Int) ∧ C.getD k 0 ≤ 1099511627776 := by
    intro k hk
    have h1 := hL _ (mem_getD L k (by omega))
    rw [hC]
    simp only [List.getD_eq_getElem?_getD, List.getElem?_map] at h1 ⊢
    rw [List.getElem?_eq_getElem (by omega)] at h1 ⊢
    simp at h1 ⊢
    omega
  have HL := Lib.hid hl; clear hl
  have HR := Lib.hid hr; clear hr
  have HG := Lib.hid hget; clear hget
  have HLC := Lib.hid hlc; clear hlc
  clear hC hL
  have hnI : decide ((256 : Int) < (n : Int)) = false := by rw [decide_eq_false_iff_not]; omega
  go_enter Try.func37, Try.ntmps37
  go_wp2_with fail
  go_loopw [4, 5, 6, 18] (fun v4 v5 v6 v18 wr => ∃ (k n1 cap : Nat) (a1 : Option Addr) (L1 : List GV), k ≤ n ∧ v18 = .int .i64 k ∧ v4 = .slice a1 n1 cap ∧ n1 ≤ k ∧ Hid (L1.length = n1) ∧ Hid (Owns wr w.heap.size 121 3 a1 n1 cap (gvs L1)) ∧ Hid (∀ x ∈ L1, OfAt wr w.heap.size (atBlk a1) x) ∧ Hid (L1.map GV.grp = leaves (C.take k)) ∧ Below w.heap.size w wr) (fun _ _ _ v18 _ => n - (intOf v18).toNat)
  case atStart => exact ⟨0, 0, 0, none, [], by omega, rfl, rfl, by omega, Lib.hid rfl, Lib.hid (Owns.nil _ _ _ _), Lib.hid (by simp), Lib.hid rfl, Below.refl _ _⟩
  case round =>
    obtain ⟨k, n1, cap, a1, L1, hk, rfl, rfl, hn1, HN1, HO, HF, HM, hb⟩ := hrel
    by_cases hlt : k < n
    · obtain ⟨x, rfl, hxl, hc0⟩ := HR.out k (by rw [HL.out]; exact hlt)
      have hc : wr.cell? (x.add k) = some (.int .i64 (L.getD k 0)) := by
        rw [World.cell?_of_block (w := w) (w' := wr) (a := x.add k)]
        · exact hc0
        · rw [Addr.add_block]; exact hb.block _ hxl
      obtain ⟨hg1, hg2⟩ := HG.out k hlt
      rw [hg1] at hc
      have htk := leaves_take C k (by rw [HLC.out]; exact hlt)
      have hkI : (k : Int) < (n : Int) := by omega
      clear hc0 hg1
      generalize hz : C.getD k 0 = z at *
      clear hz
      have d1 : decide ((z : Int) < 0) = false := by rw [decide_eq_false_iff_not]; omega
      have d2 : decide ((1099511627776 : Int) < (z : Int)) = false := by rw [decide_eq_false_iff_not]; omega
      by_cases hz : 0 < z
      · rw [if_pos hz] at htk
        have HTK := Lib.hid htk; clear htk
        have d3 : decide ((0 : Int) < (z : Int)) = true := by rw [decide_eq_true_eq]; omega
        have hbs := hb.size
        have ho := HO.out
        have h63 : n1 + 1 ≤ maxLen := by unfold maxLen; omega
        go_wp2_with (with_reducible refine wpList_pushW (wr.alloc (.cells #[.int .i64 (k : Nat)] 3)) (wr.heap.size + 1) (by simp) rfl _ _ 119 rfl w.heap.size 121 (.agg #[.int .i64 0, .int .i64 0, .slice none 0 0]) 3 40 Try.underlying119 infoGrp rfl (by decide) a1 n1 cap _ rfl (ho.alloc _) [.int .i64 (z : Nat), .int .i64 (k : Nat), .slice (some ⟨wr.heap.size, 0, none⟩) 1 1] rfl (by simp [Value.oneCell']) rfl h63 (by omega) (by simp; omega) ?_; intro a' cap' w' hown' hgrow hloc hsz' hex)
        obtain ⟨L2, q1, q2, q3, q4, q5⟩ := pushGv (by omega) (by omega) HN1.out HO.out HF.out hbs hown' hgrow hloc
        clear hown' hgrow hloc hex ho
        go_roundw
        case rel => exact ⟨k + 1, n1 + 1, cap', a', L2, by omega, by go_num, rfl, by omega, Lib.hid q1, Lib.hid q2, Lib.hid q3, Lib.hid (by rw [q4, HTK.out, HM.out]), hb.trans q5⟩
        case measure => simp [intOf]; omega
      · rw [if_neg hz, List.append_nil] at htk
        have HTK := Lib.hid htk; clear htk
        have d3 : decide ((0 : Int) < (z : Int)) = false := by rw [decide_eq_false_iff_not]; omega
        go_wp2_with fail
        go_roundw
        case rel => exact ⟨k + 1, n1, cap, a1, L1, by omega, by go_num, rfl, by omega, HN1, HO, HF, Lib.hid (by rw [HTK.out]; exact HM.out), hb⟩
        case measure => simp [intOf]; omega
    · obtain rfl : k = n := by omega
      have hd : decide ((k : Int) < (k : Int)) = false := by simp
      obtain ⟨i0, hi, hz0, hz1, hz2⟩ := info_parts infoI64
      go_upto_if 46 with (with_reducible refine wpList_make0 _ rfl _ _ 34 rfl 3 i0 (.int .i64 0) Try.underlying34 hi hz0 hz1 rfl .i64 .i64 (k : Int) (k : Int) k rfl rfl rfl rfl (by rw [hz2]; omega) (by unfold maxLen; omega) ?_; intro w1 hrow hb1 hsz1)
      have hok : LensOk C k w = LensOk C k w := rfl
      obtain ⟨o, ho⟩ : ∃ o, o = wr.heap.size := ⟨_, rfl⟩
      have hbs := hb.size
      have hoB : w.heap.size ≤ o := by omega
      rw [← ho] at hrow
      rw [← ho]
      have hbW := hb.trans (hb1.mono hb.size)
      have hM := HM.out
      rw [List.take_of_length_le (by rw [HLC.out]; omega)] at hM
      have hlv : (leaves C).length = n1 := by rw [← hM, List.length_map, HN1.out]
      have howns : Owns w1 w.heap.size 121 3 a1 n1 cap (gvs L1) := HO.out.below hb1 (Nat.le_refl _)
      have hofs : ∀ x ∈ L1, OfAt w1 w.heap.size (fun b => atBlk a1 b ∨ b = o) x := by
        intro x hx
        obtain ⟨b, c, q1, q2, q3, q4⟩ := HF.out x hx
        have hlt := q2.lt
        exact ⟨b, c, q1, q2.of_heap (hb1.block b hlt), q3, fun h => by rcases h with h | h; exact q4 h; omega⟩
      have hao : ¬ atBlk a1 o := by
        rintro ⟨y, hy, h⟩
        have := HO.out.blk_lt y hy
        omega
      have HM2 := Lib.hid hM; have HLV := Lib.hid hlv; have HOW := Lib.hid howns; have HOF := Lib.hid hofs; have HAO := Lib.hid hao
      have HROW : Hid (RowAt w1 o 0 3 (nvals .i64 (List.replicate k 0))) := by rw [nvals_zero]; exact hrow
      have HBW := Lib.hid hbW; have HOB := Lib.hid hoB
      clear hM hlv howns hofs hao hrow hbW hb hb1 hsz1 HO HF HM hok ho hbs hoB hi hz0 hz1 hz2
      go_cut [4] from 46 to 54 (fun v4 wr => ∃ a2, v4 = .slice a2 n1 cap ∧ Hid (LRel w.heap.size C (lens C) o w a2 n1 cap 256 wr))
      case first =>
        by_cases h1 : n1 = 1
        · have e1 : ((n1 : Int) == 1) = true := by rw [beq_iff_eq]; omega
          have e2 : decide ((1 : Int) < (n1 : Int)) = false := by rw [decide_eq_false_iff_not]; omega
          obtain ⟨x, hx⟩ := List.length_eq_one_iff.1 (HN1.out.trans h1)
          have hxo := HOF.out x (by rw [hx]; exact List.mem_singleton_self _)
          have hlv1 := HM2.out
          rw [hx] at hlv1
          have hlf := (leavesFrom_facts C 0).1 x.grp (by show x.grp ∈ leaves C; rw [← hlv1]; exact List.mem_singleton_self _)
          obtain ⟨j, hj, hjg, hjp⟩ := hlf
          have hof : x.of = [j] := by
            have := congrArg Grp.of hjg
            rw [Nat.zero_add] at this
            exact this
          obtain ⟨b, c1, q1, q2, q3, q4⟩ := hxo
          have HFIN : Hid (RowAt (w1.setCell ⟨o, j, none⟩ (.int .i64 1)) o 0 3 (nvals .i64 (lens C))) := by
            have := HROW.out.setNum j 1 (by rw [List.length_replicate, ← HLC.out]; exact hj)
            rw [lens_one C x.grp hlv1.symm]
            show RowAt _ o 0 _ (nvals .i64 (bump (List.replicate C.length 0) x.of))
            rw [hof, HLC.out]
            unfold bump
            simp only [List.foldl_cons, List.foldl_nil, getD_replicate_zero]
            exact this
          have ho := HOW.out
          rw [hx] at ho
          cases a1 with
          | none => have := ho.of_none.1; omega
          | some y =>
            obtain ⟨r1, r2, r3, r4, r5⟩ := ho.row
            rw [r1] at r1
            obtain ⟨g, hg⟩ : ∃ g, g = y.block := ⟨_, rfl⟩
            rw [← hg] at r5
            obtain rfl : y = ⟨g, 0, none⟩ := by rw [hg]; exact (ho.row).1
            have hc2 := r5.cell0 2 (by rw [gvs_length]; simp)
            have hcv : w1.cell? ⟨g, 2, none⟩ = some (.slice (some ⟨b, 0, none⟩) 1 c1) := by
              rw [hc2]
              show some x.v = _
              rw [q1, hof]
              rfl
            have hcj := q2.cell0 0 (by rw [nvals_length, hof]; simp)
            have hcj2 : w1.cell? ⟨b, 0, none⟩ = some (.int .i64 (j : Nat)) := by
              rw [hcj]
              simp only [hof, nvals, List.map_cons, List.map_nil, List.getElem_cons_zero]
            have hco := HROW.out.cell0 j (by rw [nvals_length, List.length_replicate, ← HLC.out]; exact hj)
            have hfo := HROW.out.frozen0 j (by rw [nvals_length, List.length_replicate, ← HLC.out]; exact hj)
            generalize (nvals .i64 (List.replicate k 0))[j]'(by rw [nvals_length, List.length_replicate, ← HLC.out]; exact hj) = old at *
            have hjk : (j : Int) < (k : Int) := by have := HLC.out; omega
            have hn1I : (0 : Int) < (n1 : Int) := by omega
            have HX := Lib.hid hx
            have H1 := Lib.hid h1
            clear hc2 hcj r1 r2 r3 r4 r5 q1 q2 q3 q4 hof hjg hjp hlv1 hx ho hg hj h1
            go_wp2_with fail
            go_meet
            exact ⟨_, rfl, Lib.hid ⟨HBW.out.setCell (p := ⟨o, j, none⟩) HOB.out _, by omega, .inl ⟨by have := H1.out; omega, HFIN.out⟩⟩⟩
        · have e1 : ((n1 : Int) == 1) = false := by rw [beq_eq_false_iff_ne]; omega
          by_cases h0 : n1 = 0
          · have e2 : decide ((1 : Int) < (n1 : Int)) = false := by rw [decide_eq_false_iff_not]; omega
            have HFIN : Hid (RowAt w1 o 0 3 (nvals .i64 (lens C))) := by
              rw [lens_many C (by rw [HLV.out]; exact h1), run_short _ _ _ _ (by rw [HLV.out]; omega), HLC.out]
              exact HROW
            go_wp2_with fail
            go_meet
            exact ⟨_, rfl, Lib.hid ⟨HBW.out, by omega, .inl ⟨by omega, HFIN.out⟩⟩⟩
          · have ho := HOW.out
            have hl5 : (leaves C).length ≠ 1 := by rw [HLV.out]; exact h1
            have hst := St.start C (by rw [HLC.out]; omega)
            have hfin : run n1 (leaves C) 256 (List.replicate C.length 0) = lens C := by rw [lens_many C hl5, HLV.out]
            rw [← HM2.out] at hfin
            have hst2 : St C (leaves C).length (L1.map GV.grp) 256 (List.replicate C.length 0) := by rw [HM2.out]; exact hst
            have hfin2 := hfin
            cases a1 with
            | none => have := ho.of_none.1; omega
            | some y =>
              obtain ⟨g, hg⟩ : ∃ g, g = y.block := ⟨_, rfl⟩
              obtain rfl : y = ⟨g, 0, none⟩ := by rw [hg]; exact (ho.row).1
              clear hg
              have hgo : g ≠ o := fun h => HAO.out ⟨_, rfl, h⟩
              have HLS : Hid (LSt w.heap.size C (lens C) o g 0 n1 cap 256 L1 (List.replicate C.length 0) w1) := Lib.hid
                ⟨ho.at_, HN1.out, fun x hx => (HOF.out x hx).kept (fun b _ _ => rfl) (fun b _ h => by rcases h with h | h; exact .inl ⟨_, rfl, h.symm⟩; exact .inr h), by rw [HLC.out]; exact HROW.out, hst2, hfin2, hgo, HOB.out, by rw [HLV.out]⟩
              clear hst hst2 hfin hfin2 ho hl5
              go_wp2_with fail
              go_meet
              exact ⟨_, rfl, Lib.hid ⟨HBW.out, by omega, .inr ⟨by omega, g, 0, L1, _, rfl, HLS.out⟩⟩⟩
      case rest =>
        obtain ⟨a2, rfl, HREL⟩ := hcut
        clear HOW HOF HAO HROW HBW HM2 HLV HN1
        go_wp2_with fail
        go_loopw [4, 8, 9, 11] (fun v4 v8 _ _ wr => ∃ a n cap made, v4 = .slice a n cap ∧ v8 = .int .i64 (made : Nat) ∧ Hid (LRel w.heap.size C (lens C) o w a n cap made wr)) (fun v4 _ _ _ _ => lenV v4)
        case atStart => exact ⟨a2, n1, cap, 256, rfl, rfl, HREL⟩
        case round =>
          clear HREL
          obtain ⟨a3, n3, cap3, made, rfl, rfl, HREL⟩ := hrel
          obtain ⟨hb, hcnt, hcase⟩ := HREL.out
          clear HREL
          have HB := Lib.hid hb; clear hb
          rcases hcase with ⟨hn3, hrow⟩ | ⟨hn3, g, off, L3, D, rfl, hst⟩
          · have e2 : decide ((1 : Int) < (n3 : Int)) = false := by rw [decide_eq_false_iff_not]; omega
            have HROW := Lib.hid hrow; clear hrow
            go_wp2_with fail
            go_ret2
            exact ⟨o, rfl, HROW.out, HOB.out, HB.out⟩
          · have e2 : decide ((1 : Int) < (n3 : Int)) = true := by rw [decide_eq_true_eq]; omega
            have HST := Lib.hid hst; clear hst
            go_wp2_with fail
            refine (sortGv _ g off n3 cap3 L3 _ HST.out.row HST.out.len (by omega)).mono ?_
            rintro e w2 ⟨rfl, L4, hp4, hs4, hr4, hg4⟩
            obtain ⟨m, x, y, R, bx, cx, bY, cy, hn3m, hso⟩ := HST.out.sorted hn3 hp4 hs4 hr4 hg4
            have HM3 := Lib.hid hn3m; clear hn3m
            have HB2 := Lib.hid (HB.out.grown hg4 HB.out.size (fun k hk => by cases hk; exact HST.out.row.base))
            have HS := Lib.hid hso
            clear hp4 hs4 hr4 hg4 hso HB HST
            go_upto_region 19 with fail
            go_cut [9] from 62 to 82 (fun v9 wr => ∃ b9 a9 c9, v9 = .pointer (some ⟨b9, 0, none⟩) ∧ Hid (LJo x y made b9 a9 c9 w2 wr))
            case first =>
              have hg2 := HS.out.row.lt
              have hrw := HS.out.row.rowAt
              have k0 := hrw.cell 0 (by rw [gvs_length]; simp only [List.length_cons]; omega)
              have k2 := hrw.cell 2 (by rw [gvs_length]; simp only [List.length_cons]; omega)
              have k3 := hrw.cell 3 (by rw [gvs_length]; simp only [List.length_cons]; omega)
              have k5 := hrw.cell 5 (by rw [gvs_length]; simp only [List.length_cons]; omega)
              have hgs : GS g off x.n y.n (.slice (some ⟨bx, 0, none⟩) x.of.length cx) (.slice (some ⟨bY, 0, none⟩) y.of.length cy) w2 w2 := ⟨k0, k2.trans (congrArg some HS.out.xv), k3, k5.trans (congrArg some HS.out.yv), Below.refl _ _⟩
              have hxb : x.n ≤ 1125899906842624 := x.hn
              have hyb : y.n ≤ 1125899906842624 := y.hn
              clear k0 k2 k3 k5 hrw
              obtain ⟨s0, s2, s3, s5, sb⟩ := hgs.drew hg2
              have hm4 : 0 < n3 := by omega
              have hm5 : 1 < n3 := by omega
              have hm2 : (1 : Int) < (n3 : Int) := by omega
              have hm3 : (0 : Int) < (n3 : Int) := by omega
              have hcat : ∀ (V : World) (b : Nat), (V.cell? ⟨g, off, none⟩ = some (.int .i64 (x.n : Nat)) ∧ V.cell? ⟨g, off + 2, none⟩ = some (.slice (some ⟨bx, 0, none⟩) x.of.length cx) ∧ V.cell? ⟨g, off + 3, none⟩ = some (.int .i64 (y.n : Nat)) ∧ V.cell? ⟨g, off + 3 + 2, none⟩ = some (.slice (some ⟨bY, 0, none⟩) y.of.length cy) ∧ Below w2.heap.size w2 V) → RowAt V b 0 34 [.slice (some ⟨bx, 0, none⟩) x.of.length cx, .slice (some ⟨bY, 0, none⟩) y.of.length cy] →
                  Calls Try.prog 78 #[.slice (some ⟨b, 0, none⟩) 2 2] V fun e w' => ∃ a c', e = .returned (.slice (some ⟨a, 0, none⟩) (x.of.length + y.of.length) c') ∧ RowAt w' a 0 3 (nvals .i64 (x.of ++ y.of)) ∧ V.heap.size ≤ a ∧ Below V.heap.size V w' ∧ GS g off x.n y.n (.slice (some ⟨bx, 0, none⟩) x.of.length cx) (.slice (some ⟨bY, 0, none⟩) y.of.length cy) w2 w' := by
                intro V b hV hrV
                have hbel := hV.2.2.2.2
                refine (cat_any V b bx bY cx cy x.of y.of (HS.out.xr.of_heap (hbel.block _ HS.out.xr.lt)) (HS.out.yr.of_heap (hbel.block _ HS.out.yr.lt)) hrV ?_ ?_).mono (fun e w' ⟨a, c', h1, h2, h3, h4⟩ => ⟨a, c', h1, h2, h3, h4, GS.call hV hg2 h4⟩)
                · have := HS.out.two_len (by rw [HLC.out]; omega); omega
                · exact HS.out.st.ne _ List.mem_cons_self
              have HCAT := Lib.hid hcat; clear hcat
              have hwr : IntKind.i64.wrap ((x.n : Int) + (y.n : Int)) = ((x.n + y.n : Nat) : Int) := by rw [IntKind.wrap_i64]; omega
              have HWR := Lib.hid hwr; clear hwr
              go_region_held3 (fun w1 => w1.cell? ⟨g, off, none⟩ = some (.int .i64 (x.n : Nat)) ∧ w1.cell? ⟨g, off + 2, none⟩ = some (.slice (some ⟨bx, 0, none⟩) x.of.length cx) ∧ w1.cell? ⟨g, off + 3, none⟩ = some (.int .i64 (y.n : Nat)) ∧ w1.cell? ⟨g, off + 3 + 2, none⟩ = some (.slice (some ⟨bY, 0, none⟩) y.of.length cy) ∧ Below w2.heap.size w2 w1)
                (first
                  | exact ⟨s0, s2, s3, s5, sb⟩
                  | exact GS.alloc (by assumption) hg2 _
                  | exact hg9
                  | exact GS.alloc hg9 hg2 _
                  | exact GS.step hg9 hg2 ((((Below.refl _ _).setCell (by simp) _).setCell (by simp) _).setCell (by simp) _))
                (first
                  | (go_at_call 78; ((with_reducible refine (HCAT.out _ _ (by assumption) (by first | exact (RowAt.new2 _ _ (by first | rfl | simp) _ [_, _]).drewR | exact ((RowAt.new2 _ _ (by first | rfl | simp) _ [_, _]).alloc _).drewR | exact RowAt.new2 _ _ (by first | rfl | simp) _ [_, _])).mono ?_); rintro e w9 ⟨a9, c9, rfl, hr9, ha9, hb9, hg9⟩; obtain ⟨hc9, hf9⟩ := bcell9 hb9)))
              all_goals
                go_wp2_with fail
                go_meet
                first
                  | exact ⟨_, _, _, rfl, Lib.hid (LJo.late HWR.out hr9 (by simp at ha9; omega) hg9.2.2.2.2)⟩
                  | exact ⟨_, _, _, rfl, Lib.hid (LJo.early HWR.out ((RowAt.new2 _ _ (by simp) _ [_, _, _]).drewR) (((Below.refl _ _).alloc (Nat.le_refl _) _).alloc (by simp) _).drew hb9 (by simp) hr9 ha9)⟩
                  | exact ⟨_, _, _, rfl, Lib.hid (LJo.early HWR.out (((RowAt.new2 _ _ rfl _ [_, _, _]).alloc _).drewR) (((Below.refl _ _).alloc (Nat.le_refl _) _).alloc (by simp) _).drew hb9 (Nat.le_refl _) hr9 ha9)⟩
            case rest =>
              obtain ⟨b9, a9, c9, rfl, HJ⟩ := hcut
              obtain ⟨jb, jr, ja, ja2, jb2, jne⟩ := HJ.out
              have jc0 := jr.cell0 0 (by simp)
              have jc1 := jr.cell0 1 (by simp)
              have jc2 := jr.cell0 2 (by simp)
              simp only [List.getElem_cons_zero, List.getElem_cons_succ] at jc0 jc1 jc2
              obtain ⟨q, hq⟩ : ∃ q, q = x.of.length + y.of.length := ⟨_, rfl⟩
              have hql : (x.of ++ y.of).length = q := by rw [hq, List.length_append]
              have hq256 : q ≤ 256 := by have := HS.out.two_len (by rw [HLC.out]; omega); omega
              rw [← hq] at jc2
              have HQ := Lib.hid hq; clear hq
              have HQL := Lib.hid hql; clear hql
              have HJA := Lib.hid ja
              have HOUT : Hid (RowAt wc o 0 3 (nvals .i64 (bump D ((x.of ++ y.of).take 0)))) := Lib.hid (HS.out.out.of_heap (jb.block _ HS.out.out.lt))
              clear jr ja ja2 jb2 jne jb jc0 jc1
              go_wp2_with fail
              clear jc2
              go_loopw [11, 86] (fun v11 v86 wr => ∃ j : Nat, j ≤ q ∧ v86 = .int .i64 j ∧ Hid (wc.grownBy wr (some o)) ∧ Hid (RowAt wr o 0 3 (nvals .i64 (bump D ((x.of ++ y.of).take j))))) (fun _ v86 _ => q - (intOf v86).toNat)
              case atStart => exact ⟨0, by omega, rfl, Lib.hid (grown_refl _ _), HOUT⟩
              case round =>
                clear HOUT
                obtain ⟨j, hj, rfl, HGR, HOUT⟩ := hrel
                by_cases hjq : j < q
                · have hjl : j < (x.of ++ y.of).length := by rw [HQL.out]; exact hjq
                  have hab := HS.out.a9_ne HJ.out
                  have hca := (HJA.out.of_heap (HGR.out.block _ HJA.out.lt (fun e => hab (Option.some.inj e)))).num0 j hjl
                  have hil : (x.of ++ y.of).getD j 0 < k := by
                    rw [← HLC.out]
                    refine HS.out.two_nodup.2 _ ?_
                    rw [List.getD_eq_getElem?_getD, List.getElem?_eq_getElem hjl]; exact List.getElem_mem _
                  have hbs := bump_snoc D (x.of ++ y.of) j hjl
                  have hbl : (bump D ((x.of ++ y.of).take j)).length = k := by rw [bump_length, HS.out.st.len, HLC.out]
                  have hval := HS.out.small (by rw [HLC.out]; omega) j ((x.of ++ y.of).getD j 0)
                  generalize (x.of ++ y.of).getD j 0 = i at *
                  generalize bump D ((x.of ++ y.of).take j) = E at *
                  have hco := HOUT.out.num0 i (by omega)
                  have hfo := HOUT.out.frozen0 i (by rw [nvals_length]; omega)
                  have hset := HOUT.out.setNum i (E.getD i 0 + 1) (by omega)
                  rw [← hbs] at hset
                  generalize E.getD i 0 = t at *
                  have HSET := Lib.hid hset
                  have hjI : (j : Int) < (q : Int) := by omega
                  have hiI : (i : Int) < (k : Int) := by omega
                  clear hset hbs hab hbl
                  go_wp2_with fail
                  go_roundw
                  case rel => exact ⟨j + 1, by omega, by go_num, Lib.hid (grown_set HGR.out rfl _), HSET⟩
                  case measure => simp [intOf]; omega
                · obtain rfl : j = q := by omega
                  have hd2 : decide ((j : Int) < (j : Int)) = false := by simp
                  have hlen := HQL.out
                  rw [List.take_of_length_le (by omega)] at HOUT
                  have hso := HS.out
                  have hj := HJ.out
                  have hbo : b9 ≠ o := by have := hso.out.lt; have := hj.2.2.2.2.1; omega
                  have hb9 := hj.2.1.of_heap (HGR.out.block _ hj.2.1.lt (fun e => hbo (Option.some.inj e)))
                  have jc0 := hb9.cell0 0 (by simp)
                  have jc1 := hb9.cell0 1 (by simp)
                  have jc2 := hb9.cell0 2 (by simp)
                  simp only [List.getElem_cons_zero, List.getElem_cons_succ] at jc0 jc1 jc2
                  have hgo : OwnsAt wr w.heap.size 121 3 g off n3 cap3 (gvs (x :: y :: R)) := by
                    have h1 : OwnsAt wc w.heap.size 121 3 g off (m + 2) cap3 (gvs (x :: y :: R)) := hso.row.below hj.1 hso.row.lt
                    rw [HM3.out]
                    exact h1.keep (HGR.out.block _ h1.lt (fun e => hso.gne (Option.some.inj e)))
                  have hle := hgo.le
                  obtain ⟨off2, hoff2, HGD⟩ := hgo.rest hn3
                  rw [← HQ.out] at jc2
                  have hn3I : (2 : Int) ≤ (n3 : Int) := by omega
                  have hJA := HJ.out.2.2.1.of_heap (HGR.out.block _ HJ.out.2.2.1.lt (fun e => HS.out.a9_ne HJ.out (Option.some.inj e)))
                  clear hso hj hb9 hgo
                  have HJA2 := Lib.hid hJA; clear hJA
                  have HWB := Lib.hid (HGR.out.size)
                  go_wp2_with fail
                  have hb9l : b9 < wr.heap.size := World.block_lt_of_cell? wr ⟨b9, 0, none⟩ jc0
                  have hb9g : b9 ≠ g := by have := HS.out.row.lt; have := HJ.out.2.2.2.2.1; omega
                  have hal : ∀ ob, (wr.alloc ob).cell? ⟨b9, 0, none⟩ = some (.int .i64 ((x.n + y.n : Nat) : Int)) ∧ (wr.alloc ob).cell? ⟨b9, 1, none⟩ = some (.int .i64 (made : Nat)) ∧ (wr.alloc ob).cell? ⟨b9, 2, none⟩ = some (.slice (some ⟨a9, 0, none⟩) j c9) := by
                    intro ob
                    have hbb := (Below.refl wr.heap.size wr).alloc (Nat.le_refl _) ob
                    exact ⟨(hbb.cell (p := ⟨b9, 0, none⟩) hb9l).trans jc0, (hbb.cell (p := ⟨b9, 1, none⟩) hb9l).trans jc1, (hbb.cell (p := ⟨b9, 2, none⟩) hb9l).trans jc2⟩
                  have hpu : ∀ ob w4, ((wr.alloc ob).drew).grownBy w4 (some g) → w4.cell? ⟨b9, 0, none⟩ = some (.int .i64 ((x.n + y.n : Nat) : Int)) ∧ w4.cell? ⟨b9, 1, none⟩ = some (.int .i64 (made : Nat)) ∧ w4.cell? ⟨b9, 2, none⟩ = some (.slice (some ⟨a9, 0, none⟩) j c9) := by
                    intro ob w4 hg4
                    have hl9 : b9 < ((wr.alloc ob).drew).heap.size := by simp; omega
                    obtain ⟨k0, k1, k2⟩ := hal ob
                    have hne : some b9 ≠ some g := fun e => hb9g (Option.some.inj e)
                    exact ⟨(hg4.cell_far ⟨b9, 0, none⟩ hl9 hne).trans k0, (hg4.cell_far ⟨b9, 1, none⟩ hl9 hne).trans k1, (hg4.cell_far ⟨b9, 2, none⟩ hl9 hne).trans k2⟩
                  have HAL := Lib.hid hal; have HPU := Lib.hid hpu
                  have h63 : n3 - 2 + 1 ≤ maxLen := by unfold maxLen; omega
                  have hby : (n3 - 2 + 1) * 40 ≤ 140737488355328 := by omega
                  have hbw : w.heap.size ≤ wr.heap.size := by have := HB2.out.size; have := HJ.out.1.size; have := HWB.out; omega
                  have H63 := Lib.hid h63; have HBY := Lib.hid hby; have HBW2 := Lib.hid hbw
                  clear hal hpu h63 hby hbw hb9l hb9g
                  go_region_held3 (fun w1 => w1.cell? ⟨b9, 0, none⟩ = some (.int .i64 ((x.n + y.n : Nat) : Int)) ∧ w1.cell? ⟨b9, 1, none⟩ = some (.int .i64 (made : Nat)) ∧ w1.cell? ⟨b9, 2, none⟩ = some (.slice (some ⟨a9, 0, none⟩) j c9))
                    (first
                      | exact ⟨jc0, jc1, jc2⟩
                      | exact HAL.out _
                      | exact HPU.out _ _ hgrow4)
                    ((refine step_pushAt _ (by rfl) _ _ 119 (by rfl) w.heap.size 121 (.agg #[.int .i64 0, .int .i64 0, .slice none 0 0]) 3 40 Try.underlying119 infoGrp rfl (by decide) g off2 (n3 - 2) (cap3 - 2) (gvs R) (by rfl) ((HGD.out.alloc _).drewA) wr.heap.size 1 [.int .i64 ((x.n : Int) + (y.n : Int)), .int .i64 (made : Nat), .slice (some ⟨a9, 0, none⟩) j c9] rfl (by simp [Value.oneCell']) (by rfl) ((RowAt.new2 _ _ rfl _ [_, _, _]).drewR) H63.out HBY.out (by simp; have := HBW2.out; omega) ?_; intro g4 off4 cap4 w4 hown4 hgrow4 hloc4))
                  have hnx := HS.out.next (by rw [HLC.out]; omega) (fun i hi => (HG.out i (by rw [← HLC.out]; exact hi)).2) HB2.out HJ.out HGR.out HOUT.out hown4 HQ.out HM3.out hgrow4 hloc4 hcnt HB2.out.size
                  have HNX := Lib.hid hnx
                  clear hnx hown4 hgrow4 hloc4 jc0 jc1 jc2 HAL HPU
                  go_wp2_with fail
                  go_roundw
                  case rel => exact ⟨_, _, _, made + 1, rfl, by go_num, HNX⟩
                  case measure => simp [lenV]; omega
end Go.Proofs.Ytenhblpegobbjaa
