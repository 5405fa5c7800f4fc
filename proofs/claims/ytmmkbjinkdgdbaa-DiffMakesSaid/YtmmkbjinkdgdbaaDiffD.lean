/- Contract of package diff: Edits. -/
import Derived.Test.YtmmkbjinkdgdbaaDiffC
namespace Go.Proofs.Ytmmkbjinkdgdbaa
open Go.RowKit
set_option linter.unusedVariables false
set_option linter.unusedSimpArgs false
namespace Diff
/-- one byte's edit at a time -/
def raw : List UInt8 → List UInt8 → List Ed
  | [], [] => []
  | x :: a, [] => ⟨2, 1, []⟩ :: raw a []
  | [], y :: b => ⟨3, 0, [y]⟩ :: raw [] b
  | x :: a, y :: b => if x = y then ⟨1, 1, []⟩ :: raw a b else if lg (x :: a) b ≤ lg a (y :: b) then ⟨2, 1, []⟩ :: raw a (y :: b) else ⟨3, 0, [y]⟩ :: raw (x :: a) b
termination_by a b => a.length + b.length
/-- .. from a place in both on -/
def rawAt (a b : List UInt8) (i j : Nat) : List Ed := raw (a.drop i) (b.drop j)
theorem drop_cons (a : List UInt8) (i : Nat) (h : i < a.length) : a.drop i = a.getD i 0 :: a.drop (i + 1) := by
  rw [List.drop_eq_getElem_cons h, List.getD_eq_getElem?_getD, List.getElem?_eq_getElem h]; rfl
theorem raw_end (a b : List UInt8) (i j : Nat) (hi : a.length ≤ i) (hj : b.length ≤ j) : rawAt a b i j = [] := by
  unfold rawAt
  rw [List.drop_eq_nil_of_le hi, List.drop_eq_nil_of_le hj, raw]
theorem raw_keep (a b : List UInt8) (i j : Nat) (hi : i < a.length) (hj : j < b.length) (h : a.getD i 0 = b.getD j 0) : rawAt a b i j = ⟨1, 1, []⟩ :: rawAt a b (i + 1) (j + 1) := by
  unfold rawAt
  rw [drop_cons a i hi, drop_cons b j hj, raw, if_pos h]
theorem raw_take (a b : List UInt8) (i j : Nat) (hi : i < a.length) (hj : j < b.length) (h : a.getD i 0 ≠ b.getD j 0) (hl : L a b i (j + 1) ≤ L a b (i + 1) j) : rawAt a b i j = ⟨2, 1, []⟩ :: rawAt a b (i + 1) j := by
  unfold rawAt
  unfold L at hl
  rw [drop_cons a i hi, drop_cons b j hj] at hl
  rw [drop_cons a i hi, drop_cons b j hj, raw, if_neg h, if_pos hl]
theorem raw_give (a b : List UInt8) (i j : Nat) (hi : i < a.length) (hj : j < b.length) (h : a.getD i 0 ≠ b.getD j 0) (hl : ¬ L a b i (j + 1) ≤ L a b (i + 1) j) : rawAt a b i j = ⟨3, 0, [b.getD j 0]⟩ :: rawAt a b i (j + 1) := by
  unfold rawAt
  unfold L at hl
  rw [drop_cons a i hi, drop_cons b j hj] at hl
  rw [drop_cons a i hi, drop_cons b j hj, raw, if_neg h, if_neg hl]
theorem raw_takes (a b : List UInt8) (i j : Nat) (hi : i < a.length) (hj : b.length ≤ j) : rawAt a b i j = ⟨2, 1, []⟩ :: rawAt a b (i + 1) j := by
  unfold rawAt
  rw [drop_cons a i hi, List.drop_eq_nil_of_le hj, raw]
theorem raw_gives (a b : List UInt8) (i j : Nat) (hi : a.length ≤ i) (hj : j < b.length) : rawAt a b i j = ⟨3, 0, [b.getD j 0]⟩ :: rawAt a b i (j + 1) := by
  unfold rawAt
  rw [drop_cons b j hj, List.drop_eq_nil_of_le hi, raw]
/-- all edits -/
def edits (a b : List UInt8) : List Ed := (rawAt a b 0 0).foldl addE []
/-- on the way: what is there, and what comes -/
def OnWay (a b : List UInt8) (i j : Nat) (l : List Ed) : Prop := (rawAt a b i j).foldl addE l = edits a b ∧ l.length ≤ i + j ∧ ∀ f ∈ l, f.n ≤ i + j ∧ f.text.length ≤ i + j
theorem addE_bound {l : List Ed} {e : Ed} {K : Nat} (h : l.length ≤ K ∧ ∀ f ∈ l, f.n ≤ K ∧ f.text.length ≤ K) (h1 : e.n ≤ 1) (h2 : e.text.length ≤ 1) : (addE l e).length ≤ K + 1 ∧ ∀ f ∈ addE l e, f.n ≤ K + 1 ∧ f.text.length ≤ K + 1 := by
  rcases snoc_cases l with rfl | ⟨m, f, rfl⟩
  · rw [addE_nil]
    refine ⟨by simp, fun f hf => ?_⟩
    rw [List.mem_singleton.mp hf]; omega
  · by_cases hw : f.what = e.what
    · rw [addE_same _ _ _ hw]
      have hl := h.1
      rw [List.length_append, List.length_singleton] at hl
      refine ⟨by simp; omega, fun g hg => ?_⟩
      rcases List.mem_append.mp hg with hg | hg
      · have := h.2 g (by simp [hg]); omega
      · rw [List.mem_singleton.mp hg]
        have := h.2 f (by simp)
        simp only [List.length_append]; omega
    · rw [addE_other _ _ _ hw]
      have hl := h.1
      rw [List.length_append, List.length_singleton] at hl
      refine ⟨by simp; omega, fun g hg => ?_⟩
      rcases List.mem_append.mp hg with hg | hg
      · have := h.2 g hg; omega
      · rw [List.mem_singleton.mp hg]; omega
theorem OnWay.next {a b : List UInt8} {i j i' j' : Nat} {l : List Ed} {e : Ed} (h : OnWay a b i j l) (hr : rawAt a b i j = e :: rawAt a b i' j') (h1 : e.n ≤ 1) (h2 : e.text.length ≤ 1) (hk : i + j + 1 ≤ i' + j') : OnWay a b i' j' (addE l e) := by
  obtain ⟨p, q⟩ := h
  rw [hr, List.foldl_cons] at p
  have := addE_bound (e := e) q h1 h2
  exact ⟨p, by omega, fun f hf => by have := this.2 f hf; omega⟩
end Diff
theorem bstr_one (l : List UInt8) (j : Nat) (h : j < l.length) : (bstr l).extract j (j + 1) = bstr [l.getD j 0] := by
  rw [eq_bstr ((bstr l).extract j (j + 1))]
  congr 1
  have : ((bstr l).extract j (j + 1)).data.toList = (l.drop j).take 1 := by
    simp [bstr, ByteArray.data_extract, List.extract]
  rw [this, List.drop_eq_getElem_cons h, List.getD_eq_getElem?_getD, List.getElem?_eq_getElem h]
  rfl
set_option maxHeartbeats 2000000 in
set_option maxRecDepth 100000 in
theorem Edits_any (a b : List UInt8) (w : World) (hlen : a.length + b.length ≤ 4000) :
    Calls Try.prog 53 #[.string (bstr a), .string (bstr b)] w fun e w' => ∃ x n cap, e = .returned (.tuple #[.slice x n cap, .nilIface]) ∧ n = (Diff.edits a b).length ∧ n ≤ 4000 ∧ Owns w' w.heap.size 99 3 x n cap (Diff.edsCells (Diff.edits a b)) ∧ (∀ f ∈ Diff.edits a b, f.n ≤ 4000 ∧ f.text.length ≤ 4000) ∧ Below w.heap.size w w' := by
  have hsum : IntKind.i64.wrap ((a.length : Int) + (b.length : Int)) = (a.length : Int) + (b.length : Int) := IntWalk.i64_in _ ⟨by omega, by omega⟩
  have hd0 : decide ((4000 : Int) < (a.length : Int) + (b.length : Int)) = false := by rw [decide_eq_false_iff_not]; omega
  obtain ⟨B, hB⟩ : ∃ B, B = w.heap.size := ⟨_, rfl⟩
  rw [← hB]
  have HB := Lib.hid hB; clear hB
  go_enter Try.func53, Try.ntmps53
  go_wp2_with fail
  refine (longest_any a b _ hlen).mono ?_
  rintro e w1 ⟨g, rfl, hg1, htab, hb1⟩
  rw [← HB.out] at hg1 hb1
  have hglt := htab.lt
  obtain ⟨B1, hB1⟩ : ∃ B1, B1 = w1.heap.size := ⟨_, rfl⟩
  have hBB : B ≤ B1 := by omega
  have hgB : g + 1 + a.length < B1 := by omega
  have HB1 := Lib.hid hB1; clear hB1
  have HT := Lib.hid htab; clear htab
  clear hsum hd0 hglt
  go_wp2_with fail
  go_loopw [7, 8, 9] (fun v7 v8 v9 wr => ∃ (i j n cap : Nat) (x : Option Addr) (l : List Diff.Ed), i ≤ a.length ∧ j ≤ b.length ∧ v8 = .int .i64 i ∧ v9 = .int .i64 j ∧ v7 = .slice x n cap ∧ Hid (Owns wr B1 99 3 x n cap (Diff.edsCells l)) ∧ Hid (Tab wr g a.length b.length (Diff.L a b)) ∧ Hid (Diff.OnWay a b i j l) ∧ l.length = n ∧ B1 ≤ wr.heap.size ∧ Below B w wr) (fun _ v8 v9 _ => a.length + b.length - (intOf v8).toNat - (intOf v9).toNat)
  case atStart => exact ⟨0, 0, 0, 0, none, [], by omega, by omega, rfl, rfl, rfl, Lib.hid (Owns.nil _ _ _ _), HT, Lib.hid ⟨rfl, by simp, fun f hf => by cases hf⟩, rfl, by rw [HB1.out]; exact Nat.le_refl _, hb1⟩
  case round =>
    clear HT hb1
    obtain ⟨i, j, n, cap, x, l, hi, hj, rfl, rfl, rfl, HO, HT, HW, hln, hB1r, hbe⟩ := hrel
    have hbound := HW.out.2
    have hn4 : n ≤ 4000 := by omega
    have hfb : ∀ f ∈ l, f.n ≤ 100000 ∧ f.text.length ≤ 100000 := fun f hf => by have := hbound.2 f hf; omega
    have HFB := Lib.hid hfb; clear hfb hbound
    have t1 : IntKind.i64.wrap ((i : Int) + 1) = (i : Int) + 1 := IntWalk.i64_in _ ⟨by omega, by omega⟩
    have t2 : IntKind.i64.wrap ((j : Int) + 1) = (j : Int) + 1 := IntWalk.i64_in _ ⟨by omega, by omega⟩
    have t3 : ((i : Int) + 1).toNat = i + 1 := by omega
    have t4 : ((j : Int) + 1).toNat = j + 1 := by omega
    have t7 : (0 : Int) ≤ (i : Int) + 1 := by omega
    have t8 : (0 : Int) ≤ (j : Int) + 1 := by omega
    by_cases hia : i < a.length
    · have di : decide ((i : Int) < (a.length : Int)) = true := by rw [decide_eq_true_eq]; omega
      have ii : (i : Int) < (a.length : Int) := by omega
      have t5 : (i : Int) + 1 < (a.length : Int) + 1 := by omega
      have s1 : (i : Int) < (a.length : Int) + 1 := by omega
      have x1 : ∀ h : i < (bstr a).size, ((bstr a)[i]'h).toNat = (a.getD i 0).toNat := fun h => by rw [far_at]
      by_cases hjb : j < b.length
      · have dj : decide ((j : Int) < (b.length : Int)) = true := by rw [decide_eq_true_eq]; omega
        have dj2 : ((j : Int) == (b.length : Int)) = false := by rw [beq_eq_false_iff_ne]; omega
        have jj : (j : Int) < (b.length : Int) := by omega
        have t6 : (j : Int) + 1 < (b.length : Int) + 1 := by omega
        have s2 : (j : Int) < (b.length : Int) + 1 := by omega
        have x2 : ∀ h : j < (bstr b).size, ((bstr b)[j]'h).toNat = (b.getD j 0).toNat := fun h => by rw [far_at]
        have c2 := HT.out.row (i + 1) (by omega)
        have c1 := HT.out.row i (by omega)
        have c4 := HT.out.cell (i + 1) j (by omega) (by omega)
        have c5 := HT.out.cell i (j + 1) (by omega) (by omega)
        by_cases he : a.getD i 0 = b.getD j 0
        · have hraw := Diff.raw_keep a b i j hia hjb he
          rw [he] at x1
          clear he
          have HR := Lib.hid hraw; clear hraw
          have HX := Lib.hid x1; clear x1
          generalize hz : (b.getD j 0).toNat = z at *
          clear hz
          have x1 := HX.out
          have d4 : ((z : Int) == (z : Int)) = true := by simp
          clear c1 c2 c4 c5
          go_wp2_with fail
          go_quiet (fail)
          go_wp2_with fail
          refine (add_any B1 x n cap l ⟨1, 1, []⟩ _ (by first | exact hB1r | (simp; omega)) hln (by omega) (by simp) (by simp) (by simp) HFB.out (by first | exact HO.out | exact HO.out.drewN _ | exact (HO.out.drewN _).drewN _)).mono ?_
          rintro r w2 ⟨x2, n2, cap2, rfl, hn2, ho2, hg2, hloc2⟩
          have HN2 := Lib.hid hn2; clear hn2
          go_wp2_with fail
          go_roundw
          case rel =>
            have hbw : Below B w w2 := below_blk (by first | exact hbe | exact bdrewN hbe _ | exact bdrewN (bdrewN hbe _) _) (by first | exact HO.out | exact HO.out.drewN _ | exact (HO.out.drewN _).drewN _) hBB (by first | omega | (simp; omega)) hg2
            have hsz2 : B1 ≤ w2.heap.size := by have := hg2.size; first | omega | (simp at this; omega)
            have htab2 : Tab w2 g a.length b.length (Diff.L a b) := by
              first
              | exact ⟨RowAt.blk HT.out.1 HO.out hg2 (by omega), fun r hr => RowAt.blk (HT.out.2 r hr) HO.out hg2 (by omega)⟩
              | exact ⟨RowAt.blk (HT.out.drewN _).1 (HO.out.drewN _) hg2 (by omega), fun r hr => RowAt.blk ((HT.out.drewN _).2 r hr) (HO.out.drewN _) hg2 (by omega)⟩
              | exact ⟨RowAt.blk ((HT.out.drewN _).drewN _).1 ((HO.out.drewN _).drewN _) hg2 (by omega), fun r hr => RowAt.blk (((HT.out.drewN _).drewN _).2 r hr) ((HO.out.drewN _).drewN _) hg2 (by omega)⟩
            exact ⟨i + 1, j + 1, n2, cap2, x2, _, by omega, by omega, by go_num, by go_num, rfl, Lib.hid ho2, Lib.hid htab2, Lib.hid (HW.out.next HR.out (by simp) (by simp) (by omega)), HN2.out.symm, hsz2, hbw⟩
          case measure => simp [intOf]; omega
        · have hne : ((a.getD i 0).toNat : Int) ≠ ((b.getD j 0).toNat : Int) := fun h => he (UInt8.toNat_inj.mp (by omega))
          have d4 : (((a.getD i 0).toNat : Int) == ((b.getD j 0).toNat : Int)) = false := by rw [beq_eq_false_iff_ne]; exact hne
          by_cases hL : Diff.L a b i (j + 1) ≤ Diff.L a b (i + 1) j
          · have hraw := Diff.raw_take a b i j hia hjb he hL
            have HR := Lib.hid hraw; clear hraw
            have dl : decide (((Diff.L a b i (j + 1) : Nat) : Int) ≤ ((Diff.L a b (i + 1) j : Nat) : Int)) = true := by rw [decide_eq_true_eq]; omega
            clear he hne
            generalize (a.getD i 0).toNat = z1 at *
            generalize (b.getD j 0).toNat = z2 at *
            go_wp2_with fail
            go_quiet (fail)
            go_wp2_with fail
            go_quiet (fail)
            go_wp2_with fail
            refine (add_any B1 x n cap l ⟨2, 1, []⟩ _ (by first | exact hB1r | (simp; omega)) hln (by omega) (by simp) (by simp) (by simp) HFB.out (by first | exact HO.out | exact HO.out.drewN _ | exact (HO.out.drewN _).drewN _)).mono ?_
            rintro r w2 ⟨x2, n2, cap2, rfl, hn2, ho2, hg2, hloc2⟩
            have HN2 := Lib.hid hn2; clear hn2
            go_wp2_with fail
            go_roundw
            case rel =>
              have hbw : Below B w w2 := below_blk (by first | exact hbe | exact bdrewN hbe _ | exact bdrewN (bdrewN hbe _) _) (by first | exact HO.out | exact HO.out.drewN _ | exact (HO.out.drewN _).drewN _) hBB (by first | omega | (simp; omega)) hg2
              have hsz2 : B1 ≤ w2.heap.size := by have := hg2.size; first | omega | (simp at this; omega)
              have htab2 : Tab w2 g a.length b.length (Diff.L a b) := by
                first
                | exact ⟨RowAt.blk HT.out.1 HO.out hg2 (by omega), fun r hr => RowAt.blk (HT.out.2 r hr) HO.out hg2 (by omega)⟩
                | exact ⟨RowAt.blk (HT.out.drewN _).1 (HO.out.drewN _) hg2 (by omega), fun r hr => RowAt.blk ((HT.out.drewN _).2 r hr) (HO.out.drewN _) hg2 (by omega)⟩
                | exact ⟨RowAt.blk ((HT.out.drewN _).drewN _).1 ((HO.out.drewN _).drewN _) hg2 (by omega), fun r hr => RowAt.blk (((HT.out.drewN _).drewN _).2 r hr) ((HO.out.drewN _).drewN _) hg2 (by omega)⟩
              exact ⟨i + 1, j, n2, cap2, x2, _, by omega, by omega, by go_num, by go_num, rfl, Lib.hid ho2, Lib.hid htab2, Lib.hid (HW.out.next HR.out (by simp) (by simp) (by omega)), HN2.out.symm, hsz2, hbw⟩
            case measure => simp [intOf]; omega
          · have hraw := Diff.raw_give a b i j hia hjb he hL
            have HR := Lib.hid hraw; clear hraw
            have dl : decide (((Diff.L a b i (j + 1) : Nat) : Int) ≤ ((Diff.L a b (i + 1) j : Nat) : Int)) = false := by rw [decide_eq_false_iff_not]; omega
            clear he hne
            have hone := bstr_one b j hjb
            generalize hbj : b.getD j 0 = bj at *
            generalize (a.getD i 0).toNat = z1 at *
            have hbj2 := Lib.hid hbj; clear hbj
            generalize bj.toNat = z2 at *
            go_wp2_with fail
            go_quiet (fail)
            go_wp2_with fail
            go_quiet (fail)
            go_wp2_with fail
            refine (add_any B1 x n cap l ⟨3, 0, [bj]⟩ _ (by first | exact hB1r | (simp; omega)) hln (by omega) (by simp) (by simp) (by simp) HFB.out (by first | exact HO.out | exact HO.out.drewN _ | exact (HO.out.drewN _).drewN _)).mono ?_
            rintro r w2 ⟨x2, n2, cap2, rfl, hn2, ho2, hg2, hloc2⟩
            have HN2 := Lib.hid hn2; clear hn2
            go_wp2_with fail
            go_roundw
            case rel =>
              have hbw : Below B w w2 := below_blk (by first | exact hbe | exact bdrewN hbe _ | exact bdrewN (bdrewN hbe _) _) (by first | exact HO.out | exact HO.out.drewN _ | exact (HO.out.drewN _).drewN _) hBB (by first | omega | (simp; omega)) hg2
              have hsz2 : B1 ≤ w2.heap.size := by have := hg2.size; first | omega | (simp at this; omega)
              have htab2 : Tab w2 g a.length b.length (Diff.L a b) := by
                first
                | exact ⟨RowAt.blk HT.out.1 HO.out hg2 (by omega), fun r hr => RowAt.blk (HT.out.2 r hr) HO.out hg2 (by omega)⟩
                | exact ⟨RowAt.blk (HT.out.drewN _).1 (HO.out.drewN _) hg2 (by omega), fun r hr => RowAt.blk ((HT.out.drewN _).2 r hr) (HO.out.drewN _) hg2 (by omega)⟩
                | exact ⟨RowAt.blk ((HT.out.drewN _).drewN _).1 ((HO.out.drewN _).drewN _) hg2 (by omega), fun r hr => RowAt.blk (((HT.out.drewN _).drewN _).2 r hr) ((HO.out.drewN _).drewN _) hg2 (by omega)⟩
              exact ⟨i, j + 1, n2, cap2, x2, _, by omega, by omega, by go_num, by go_num, rfl, Lib.hid ho2, Lib.hid htab2, Lib.hid (HW.out.next HR.out (by simp) (by simp) (by omega)), HN2.out.symm, hsz2, hbw⟩
            case measure => simp [intOf]; omega
      · have ej : j = b.length := by omega
        have hraw := Diff.raw_takes a b i j hia (by omega)
        have HR := Lib.hid hraw; clear hraw
        have dj : decide ((j : Int) < (b.length : Int)) = false := by rw [decide_eq_false_iff_not]; omega
        have dj2 : ((j : Int) == (b.length : Int)) = true := by rw [beq_iff_eq]; omega
        clear ej
        go_wp2_with fail
        go_quiet (fail)
        go_wp2_with fail
        go_quiet (fail)
        go_wp2_with fail
        refine (add_any B1 x n cap l ⟨2, 1, []⟩ _ (by first | exact hB1r | (simp; omega)) hln (by omega) (by simp) (by simp) (by simp) HFB.out (by first | exact HO.out | exact HO.out.drewN _ | exact (HO.out.drewN _).drewN _)).mono ?_
        rintro r w2 ⟨x2, n2, cap2, rfl, hn2, ho2, hg2, hloc2⟩
        have HN2 := Lib.hid hn2; clear hn2
        go_wp2_with fail
        go_roundw
        case rel =>
          have hbw : Below B w w2 := below_blk (by first | exact hbe | exact bdrewN hbe _ | exact bdrewN (bdrewN hbe _) _) (by first | exact HO.out | exact HO.out.drewN _ | exact (HO.out.drewN _).drewN _) hBB (by first | omega | (simp; omega)) hg2
          have hsz2 : B1 ≤ w2.heap.size := by have := hg2.size; first | omega | (simp at this; omega)
          have htab2 : Tab w2 g a.length b.length (Diff.L a b) := by
            first
            | exact ⟨RowAt.blk HT.out.1 HO.out hg2 (by omega), fun r hr => RowAt.blk (HT.out.2 r hr) HO.out hg2 (by omega)⟩
            | exact ⟨RowAt.blk (HT.out.drewN _).1 (HO.out.drewN _) hg2 (by omega), fun r hr => RowAt.blk ((HT.out.drewN _).2 r hr) (HO.out.drewN _) hg2 (by omega)⟩
            | exact ⟨RowAt.blk ((HT.out.drewN _).drewN _).1 ((HO.out.drewN _).drewN _) hg2 (by omega), fun r hr => RowAt.blk (((HT.out.drewN _).drewN _).2 r hr) ((HO.out.drewN _).drewN _) hg2 (by omega)⟩
          exact ⟨i + 1, j, n2, cap2, x2, _, by omega, by omega, by go_num, by go_num, rfl, Lib.hid ho2, Lib.hid htab2, Lib.hid (HW.out.next HR.out (by simp) (by simp) (by omega)), HN2.out.symm, hsz2, hbw⟩
        case measure => simp [intOf]; omega
    · have di : decide ((i : Int) < (a.length : Int)) = false := by rw [decide_eq_false_iff_not]; omega
      by_cases hjb : j < b.length
      · have dj : decide ((j : Int) < (b.length : Int)) = true := by rw [decide_eq_true_eq]; omega
        have jj : (j : Int) < (b.length : Int) := by omega
        have hraw := Diff.raw_gives a b i j (by omega) hjb
        have HR := Lib.hid hraw; clear hraw
        have hone := bstr_one b j hjb
        generalize hbj : b.getD j 0 = bj at *
        have hbj2 := Lib.hid hbj; clear hbj
        go_wp2_with fail
        go_quiet (fail)
        go_wp2_with fail
        go_quiet (fail)
        go_wp2_with fail
        refine (add_any B1 x n cap l ⟨3, 0, [bj]⟩ _ (by first | exact hB1r | (simp; omega)) hln (by omega) (by simp) (by simp) (by simp) HFB.out (by first | exact HO.out | exact HO.out.drewN _ | exact (HO.out.drewN _).drewN _)).mono ?_
        rintro r w2 ⟨x2, n2, cap2, rfl, hn2, ho2, hg2, hloc2⟩
        have HN2 := Lib.hid hn2; clear hn2
        go_wp2_with fail
        go_roundw
        case rel =>
          have hbw : Below B w w2 := below_blk (by first | exact hbe | exact bdrewN hbe _ | exact bdrewN (bdrewN hbe _) _) (by first | exact HO.out | exact HO.out.drewN _ | exact (HO.out.drewN _).drewN _) hBB (by first | omega | (simp; omega)) hg2
          have hsz2 : B1 ≤ w2.heap.size := by have := hg2.size; first | omega | (simp at this; omega)
          have htab2 : Tab w2 g a.length b.length (Diff.L a b) := by
            first
            | exact ⟨RowAt.blk HT.out.1 HO.out hg2 (by omega), fun r hr => RowAt.blk (HT.out.2 r hr) HO.out hg2 (by omega)⟩
            | exact ⟨RowAt.blk (HT.out.drewN _).1 (HO.out.drewN _) hg2 (by omega), fun r hr => RowAt.blk ((HT.out.drewN _).2 r hr) (HO.out.drewN _) hg2 (by omega)⟩
            | exact ⟨RowAt.blk ((HT.out.drewN _).drewN _).1 ((HO.out.drewN _).drewN _) hg2 (by omega), fun r hr => RowAt.blk (((HT.out.drewN _).drewN _).2 r hr) ((HO.out.drewN _).drewN _) hg2 (by omega)⟩
          exact ⟨i, j + 1, n2, cap2, x2, _, by omega, by omega, by go_num, by go_num, rfl, Lib.hid ho2, Lib.hid htab2, Lib.hid (HW.out.next HR.out (by simp) (by simp) (by omega)), HN2.out.symm, hsz2, hbw⟩
        case measure => simp [intOf]; omega
      · have dj : decide ((j : Int) < (b.length : Int)) = false := by rw [decide_eq_false_iff_not]; omega
        obtain ⟨he, hl4, hf4⟩ := HW.out
        rw [Diff.raw_end a b i j (by omega) (by omega), List.foldl_nil] at he
        subst he
        have HF := Lib.hid hf4; clear hf4
        go_wp2_with fail
        go_ret2
        refine ⟨x, n, cap, rfl, hln.symm, hn4, HO.out.mono hBB, fun f hf => by have := HF.out f hf; omega, hbe⟩
end Go.Proofs.Ytmmkbjinkdgdbaa
