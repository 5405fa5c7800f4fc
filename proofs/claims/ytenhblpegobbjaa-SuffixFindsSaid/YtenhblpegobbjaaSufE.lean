/- Contract of suffix.Common. -/
import Derived.Test.YtenhblpegobbjaaSufC
namespace Go.Proofs.Ytenhblpegobbjaa
open Go.RowKit
set_option linter.unusedVariables false
set_option linter.unusedSimpArgs false
open Suf
/-- the rows of Common -/
structure C3 (w wr : World) (n ga gr gc : Nat) (A R C : List Nat) : Prop where
  ra : RowAt wr ga 0 3 (nvals .i64 A)
  rr : RowAt wr gr 0 3 (nvals .i64 R)
  rc : RowAt wr gc 0 3 (nvals .i64 C)
  lenA : A.length = n
  lenR : R.length = n
  lenC : C.length = n
  ne : ga ≠ gr ∧ ga ≠ gc ∧ gr ≠ gc
  low : w.heap.size ≤ gr ∧ w.heap.size ≤ gc
  below : Below w.heap.size w wr
theorem C3.setR {w wr : World} {n ga gr gc : Nat} {A R C : List Nat} (h : C3 w wr n ga gr gc A R C) (i v : Nat) (hi : i < n) : C3 w (wr.setCell ⟨gr, i, none⟩ (.int .i64 (v : Nat))) n ga gr gc A (R.set i v) C :=
  ⟨h.ra.far h.ne.1 _, h.rr.setNum i v (by rw [h.lenR]; exact hi), h.rc.far (Ne.symm h.ne.2.2) _, h.lenA, by rw [List.length_set]; exact h.lenR, h.lenC, h.ne, h.low, h.below.setCell (p := ⟨gr, i, none⟩) h.low.1 _⟩
theorem C3.setC {w wr : World} {n ga gr gc : Nat} {A R C : List Nat} (h : C3 w wr n ga gr gc A R C) (i v : Nat) (hi : i < n) : C3 w (wr.setCell ⟨gc, i, none⟩ (.int .i64 (v : Nat))) n ga gr gc A R (C.set i v) :=
  ⟨h.ra.far h.ne.2.1 _, h.rr.far h.ne.2.2 _, h.rc.setNum i v (by rw [h.lenC]; exact hi), h.lenA, h.lenR, by rw [List.length_set]; exact h.lenC, h.ne, h.low, h.below.setCell (p := ⟨gc, i, none⟩) h.low.2 _⟩
theorem C3.drewN {w wr : World} {n ga gr gc : Nat} {A R C : List Nat} (h : C3 w wr n ga gr gc A R C) (q : Nat) : C3 w (wr.drewN q) n ga gr gc A R C :=
  ⟨h.ra.drewN q, h.rr.drewN q, h.rc.drewN q, h.lenA, h.lenR, h.lenC, h.ne, h.low, bdrewN h.below q⟩
/-- what Common knows in a round -/
structure KI (l : List UInt8) (A C : List Nat) (i K : Nat) : Prop where
  zero : C.getD 0 0 = 0
  done : ∀ j, j < i → ∀ y, y + 1 < l.length → A.getD (y + 1) 0 = j → IsLcp l j (A.getD y 0) (C.getD (y + 1) 0)
  kept : ∀ y, y + 1 < l.length → A.getD (y + 1) 0 = i → ∀ t, t < K → same l i (A.getD y 0) t
  small : K ≤ l.length
theorem getD_set_self (C : List Nat) (i v : Nat) (h : i < C.length) : (C.set i v).getD i 0 = v := by
  rw [List.getD_eq_getElem?_getD, List.getElem?_set_self h]; rfl
theorem getD_set_ne (C : List Nat) (i j v : Nat) (h : i ≠ j) : (C.set i v).getD j 0 = C.getD j 0 := by
  rw [List.getD_eq_getElem?_getD, List.getElem?_set_ne h, ← List.getD_eq_getElem?_getD]
theorem KI.skip {l : List UInt8} {A C : List Nat} {i K : Nat} (h : KI l A C i K) (hS : Sorted l A) (h0 : A.getD 0 0 = i) (hi : i < l.length) : KI l A C (i + 1) 0 := by
  refine ⟨h.zero, fun j hj y hy e => ?_, fun y hy e t ht => by omega, by omega⟩
  by_cases hji : j = i
  · subst hji
    have := hS.inj l (x := y + 1) (y := 0) hy (by omega) (by rw [e, h0])
    omega
  · exact h.done j (by omega) y hy e
theorem KI.put {l : List UInt8} {A C : List Nat} {i K m y : Nat} (h : KI l A C i K) (hS : Sorted l A) (hC : C.length = l.length) (hy : y + 1 < l.length) (ey : A.getD (y + 1) 0 = i) (hm : IsLcp l i (A.getD y 0) m) (hml : m ≤ l.length) : KI l A (C.set (y + 1) m) (i + 1) (m - 1) := by
  refine ⟨by rw [getD_set_ne _ _ _ _ (by omega)]; exact h.zero, fun j hj z hz e => ?_, fun z hz e t ht => ?_, by omega⟩
  · by_cases hji : j = i
    · subst hji
      have hzy := hS.inj l (x := z + 1) (y := y + 1) hz hy (by rw [e, ey])
      obtain rfl : z = y := by omega
      rw [getD_set_self _ _ _ (by rw [hC]; exact hz)]
      exact hm
    · have hne : y + 1 ≠ z + 1 := by
        intro h9
        rw [← h9, ey] at e
        exact hji e.symm
      rw [getD_set_ne _ _ _ _ hne]
      exact h.done j (by omega) z hz e
  · exact kasai l hS i m y z hy hz ey e hm.1 t ht
theorem KI.commons {l : List UInt8} {A C : List Nat} {K : Nat} (h : KI l A C l.length K) (hS : Sorted l A) (hC : C.length = l.length) : Commons l A C :=
  ⟨hC, h.zero, fun x hx => h.done _ (hS.mem l (x + 1) hx) x hx rfl⟩
set_option maxRecDepth 100000 in
set_option maxHeartbeats 4000000 in
theorem Common_any (HC : CmpIs) (l : List UInt8) (w : World) (h4 : l.length ≤ 4000) :
    Calls Try.prog 45 #[.string (bstr l)] w fun e w' => ∃ g A C, e = .returned (.tuple #[.slice (some ⟨g, 0, none⟩) l.length l.length, .nilIface]) ∧ Sorted l A ∧ Commons l A C ∧ RowAt w' g 0 3 (nvals .i64 C) ∧ w.heap.size ≤ g ∧ Below w.heap.size w w' := by
  obtain ⟨i0, hi, hz0, hz1, hz2⟩ := info_parts infoI64
  have hmk : ∀ V : World, (Instr.makeSlice 34 (.int .i64 (l.length : Nat)) (.int .i64 (l.length : Nat))).run Try.prog V = .ok (.slice (some ⟨V.heap.size, 0, none⟩) l.length l.length) (V.alloc (.cells (madeCells (Value.int .i64 0).cells l.length) 3)) := by
    intro V
    have h := run_make (P := Try.prog) V 34 3 i0 (.int .i64 0) Try.underlying34 hi hz0 .i64 .i64 (l.length : Nat) (l.length : Nat) (by omega) (by omega) (by rw [hz2, show ((8 : Nat) : Int) = 8 from rfl]; omega) (by omega)
    rw [hz1, Nat.mul_one, Int.toNat_natCast] at h
    exact h
  go_enter Try.func45, Try.ntmps45
  go_wp2_with fail
  refine (Sort_any HC l w h4).mono ?_
  rintro e w1 ⟨ga, A, rfl, hS, hrA, hga, hb1⟩
  have HS := Lib.hid hS; have HRA := Lib.hid hrA; have HB1 := Lib.hid hb1; have HGA := Lib.hid hga
  obtain ⟨z, hzz⟩ : ∃ z, z = (madeCells (Value.int .i64 0).cells l.length) := ⟨_, rfl⟩
  rw [← hzz] at hmk
  have HZZ := Lib.hid hzz
  clear hS hrA hb1 hga hzz
  go_upto_region 5 with fail
  go_cut [7, 8] from 24 to 27 (fun v7 v8 wr => ∃ gr gc, v7 = .slice (some ⟨gr, 0, none⟩) l.length l.length ∧ v8 = .slice (some ⟨gc, 0, none⟩) l.length l.length ∧ Hid (RowAt wr gr 0 3 z.toList ∧ RowAt wr gc 0 3 z.toList ∧ gr ≠ gc ∧ w1.heap.size ≤ gr ∧ w1.heap.size ≤ gc ∧ Grew w1 wr))
  case first =>
    go_region
    all_goals
      go_wp2_with fail
      go_meet
      refine ⟨_, _, rfl, rfl, Lib.hid ⟨?_, ?_, ?_, ?_, ?_, ?_⟩⟩
      all_goals (first
        | ((repeat' (first | (refine RowAt.new' _ _ ?_ _ _; (first | (rfl; done) | (simp; done))) | with_reducible apply RowAt.alloc | with_reducible apply RowAt.drew)); done)
        | ((repeat' (first | with_reducible exact Grew.refl _ | with_reducible apply Grew.alloc | with_reducible apply Grew.drew)); done)
        | (simp; done)
        | (simp; omega))
  case rest =>
    obtain ⟨gr, gc, rfl, rfl, HM⟩ := hcut
    have hzv : z.toList = nvals .i64 (List.replicate l.length 0) := by
      rw [HZZ.out, show (Value.int .i64 0).cells = #[.int .i64 0] from rfl, toList_madeCells_one]; simp [nvals]
    obtain ⟨m1, m2, m3, m4, m5, m6⟩ := HM.out
    rw [hzv] at m1 m2
    have HC3 : Hid (C3 w _ l.length ga gr gc A (List.replicate l.length 0) (List.replicate l.length 0)) := Lib.hid
      ⟨m6.row HRA.out, m1, m2, HS.out.length l, by simp, by simp, ⟨by have := HRA.out.lt; omega, by have := HRA.out.lt; omega, m3⟩, ⟨Nat.le_trans HB1.out.size m4, Nat.le_trans HB1.out.size m5⟩, HB1.out.trans (m6.below.mono HB1.out.size)⟩
    have hX0 : Hid (∀ y, y < 0 → (List.replicate l.length 0).getD (A.getD y 0) 0 = y) := Lib.hid (fun y hy => absurd hy (by omega))
    clear m1 m2 m3 m4 m5 m6 hzv HM HZZ HRA HB1 hmk
    go_wp2_with fail
    go_loopw [30] (fun v30 wr => ∃ (x : Nat) (R : List Nat), v30 = .int .i64 x ∧ x ≤ l.length ∧ Hid (∀ y, y < x → R.getD (A.getD y 0) 0 = y) ∧ Hid (C3 w wr l.length ga gr gc A R (List.replicate l.length 0))) (fun v30 _ => l.length - (intOf v30).toNat)
    case atStart => exact ⟨0, _, rfl, by omega, hX0, HC3⟩
    case round =>
      clear hX0 HC3
      obtain ⟨x, R, rfl, hx, HX, HC3⟩ := hrel
      by_cases hlt : x < l.length
      · have d1 : decide ((x : Int) < (l.length : Int)) = true := decide_eq_true (by omega)
        have d1n : decide (x < l.length) = true := decide_eq_true hlt
        have hxi : (x : Int) < (l.length : Int) := by omega
        have ca := HC3.out.ra.num0 x (by rw [HC3.out.lenA]; exact hlt)
        have hin := HS.out.mem l x hlt
        obtain ⟨i, hi⟩ : ∃ i, i = A.getD x 0 := ⟨_, rfl⟩
        rw [← hi] at ca hin
        have hini : (i : Int) < (l.length : Int) := by omega
        have cr := HC3.out.rr.num0 i (by rw [HC3.out.lenR]; exact hin)
        have fr := HC3.out.rr.frozen0 i (by rw [nvals_length, HC3.out.lenR]; exact hin)
        generalize R.getD i 0 = r0 at cr
        have HLT := Lib.hid hlt; have HI := Lib.hid hi; have HIN := Lib.hid hin
        clear hlt hi hin
        go_wp2_with fail
        go_roundw
        case rel => exact ⟨x + 1, R.set i x, by go_num, by have := HLT.out; omega, Lib.hid (set_cnt (C := fun y => y) HS.out.1 HLT.out HC3.out.lenR HI.out HIN.out HX.out), Lib.hid (HC3.out.setR i x HIN.out)⟩
        case measure => simp [intOf]; have := HLT.out; omega
      · obtain rfl : x = l.length := by omega
        have d1 : decide ((l.length : Int) < (l.length : Int)) = false := by simp
        go_wp2_with fail
        have hRk : ∀ i, i < l.length → ∃ y, y < l.length ∧ A.getD y 0 = i ∧ R.getD i 0 = y := by
          intro i hi
          obtain ⟨y, hy, ey⟩ := HS.out.find l i hi
          have h := HX.out y hy
          rw [ey] at h
          exact ⟨y, hy, ey, h⟩
        have HRK := Lib.hid hRk
        have HK0 : Hid (KI l A (List.replicate l.length 0) 0 0) := Lib.hid ⟨by rw [List.getD_eq_getElem?_getD, List.getElem?_replicate]; split <;> rfl, fun j hj => absurd hj (by omega), fun y hy e t ht => absurd ht (by omega), Nat.zero_le _⟩
        clear hRk HX
        go_loopw [11, 41] (fun v11 v41 wr => ∃ (i K : Nat) (C : List Nat), v41 = .int .i64 i ∧ v11 = .int .i64 K ∧ i ≤ l.length ∧ Hid (KI l A C i K) ∧ Hid (C3 w wr l.length ga gr gc A R C)) (fun _ v41 _ => l.length - (intOf v41).toNat)
        case atStart => exact ⟨0, 0, _, rfl, rfl, by omega, HK0, HC3⟩
        case round =>
          clear HK0 HC3
          obtain ⟨i, K, C, rfl, rfl, hi, HK, HC3⟩ := hrel
          by_cases hlt : i < l.length
          · have d1 : decide ((i : Int) < (l.length : Int)) = true := decide_eq_true (by omega)
            have d1n : decide (i < l.length) = true := decide_eq_true hlt
            have hini : (i : Int) < (l.length : Int) := by omega
            obtain ⟨y, hy, ey, ry⟩ := HRK.out i hlt
            have cr := HC3.out.rr.num0 i (by rw [HC3.out.lenR]; exact hlt)
            rw [ry] at cr
            have HLT := Lib.hid hlt; have HEY := Lib.hid ey
            clear ry ey hlt
            by_cases hy0 : y = 0
            · have e1 : ((y : Int) == 0) = true := by rw [beq_iff_eq]; omega
              have hk := HK.out.skip HS.out (by have h := HEY.out; rw [hy0] at h; exact h) HLT.out
              have HKN := Lib.hid hk
              clear hy0 hk
              go_wp2_with fail
              go_roundw
              case rel => exact ⟨i + 1, 0, C, by go_num, rfl, by have := HLT.out; omega, HKN, HC3⟩
              case measure => simp [intOf]; have := HLT.out; omega
            · have e1 : ((y : Int) == 0) = false := by rw [beq_eq_false_iff_ne]; omega
              obtain ⟨y1, hy1⟩ : ∃ y1, y1 = y - 1 := ⟨_, rfl⟩
              have hw1 : IntKind.i64.wrap ((y : Int) - 1) = (y1 : Int) := by rw [IntKind.wrap_i64]; omega
              have hy1l : y1 < l.length := by omega
              have hy1I : (y1 : Int) < (l.length : Int) := by omega
              have hyI : (y : Int) < (l.length : Int) := by omega
              have hyy : y = y1 + 1 := by omega
              have hey1 : A.getD (y1 + 1) 0 = i := (congrArg (fun q => A.getD q 0) hyy).symm.trans HEY.out
              obtain ⟨j, hj⟩ : ∃ j, j = A.getD y1 0 := ⟨_, rfl⟩
              have hjn := HS.out.mem l y1 hy1l
              rw [← hj] at hjn
              have cj := HC3.out.ra.num0 y1 (by rw [HC3.out.lenA]; exact hy1l)
              rw [← hj] at cj
              have hk0 := HK.out.kept y1 (by omega) hey1
              rw [← hj] at hk0
              have hks := HK.out.small
              have HK0 := Lib.hid hk0; have HJ := Lib.hid hj; have HJN := Lib.hid hjn; have HYY := Lib.hid hyy; have HY := Lib.hid hy
              clear hk0 hj hjn hyy hy1 hy0 hy hy1l hey1
              go_wp2_with fail
              go_loopw [11] (fun v11 wr2 => ∃ K' : Nat, v11 = .int .i64 K' ∧ K' ≤ l.length ∧ Hid (∀ t, t < K' → same l i j t) ∧ Hid (C3 w wr2 l.length ga gr gc A R C)) (fun v11 _ => l.length - (intOf v11).toNat)
              case atStart => exact ⟨K, rfl, hks, HK0, HC3⟩
              case round =>
                clear HK0 HC3 hks cr cj
                obtain ⟨m, rfl, hml, HM, HC3⟩ := hrel
                have hwi : IntKind.i64.wrap ((i : Int) + (m : Int)) = (i : Int) + (m : Int) := by rw [IntKind.wrap_i64]; omega
                have hjn := HJN.out
                have hwj : IntKind.i64.wrap ((j : Int) + (m : Int)) = (j : Int) + (m : Int) := by rw [IntKind.wrap_i64]; omega
                have hni : 0 ≤ (i : Int) + (m : Int) := by omega
                have hnj : 0 ≤ (j : Int) + (m : Int) := by omega
                have hti : ((i : Int) + (m : Int)).toNat = i + m := by omega
                have htj : ((j : Int) + (m : Int)).toNat = j + m := by omega
                by_cases hsm : same l i j m
                · obtain ⟨s1, s2, s3⟩ := hsm
                  have HSM : Hid (same l i j m) := Lib.hid ⟨s1, s2, s3⟩
                  have d2 : decide ((i : Int) + (m : Int) < (l.length : Int)) = true := decide_eq_true (by omega)
                  have d3 : decide ((j : Int) + (m : Int) < (l.length : Int)) = true := decide_eq_true (by omega)
                  have l2 : (i : Int) + (m : Int) < (l.length : Int) := by omega
                  have l3 : (j : Int) + (m : Int) < (l.length : Int) := by omega
                  have hxi : ∀ h : i + m < (bstr l).size, ((bstr l)[i + m]'h).toNat = (l.getD (j + m) 0).toNat := fun h => by
                    rw [← s3, List.getD_eq_getElem?_getD, List.getElem?_eq_getElem s1]; rfl
                  have hxj : ∀ h : j + m < (bstr l).size, ((bstr l)[j + m]'h).toNat = (l.getD (j + m) 0).toNat := fun h => by
                    rw [List.getD_eq_getElem?_getD, List.getElem?_eq_getElem s2]; rfl
                  generalize (l.getD (j + m) 0).toNat = b at *
                  have hbb : ((b : Int) == (b : Int)) = true := by simp
                  clear s3
                  go_wp2_with fail
                  go_quiet (fail)
                  go_wp2_with fail
                  go_roundw
                  case rel =>
                    refine ⟨m + 1, by go_num, by omega, Lib.hid fun t ht => ?_, Lib.hid (HC3.out.drewN nq)⟩
                    by_cases e : t = m
                    · rw [e]; exact HSM.out
                    · exact HM.out t (by omega)
                  case measure => simp [intOf]; omega
                · have HNS := Lib.hid hsm
                  by_cases s1 : i + m < l.length
                  · have d2 : decide ((i : Int) + (m : Int) < (l.length : Int)) = true := decide_eq_true (by omega)
                    have l2 : (i : Int) + (m : Int) < (l.length : Int) := by omega
                    by_cases s2 : j + m < l.length
                    · have d3 : decide ((j : Int) + (m : Int) < (l.length : Int)) = true := decide_eq_true (by omega)
                      have l3 : (j : Int) + (m : Int) < (l.length : Int) := by omega
                      have s3 : (l.getD (i + m) 0).toNat ≠ (l.getD (j + m) 0).toNat := fun h => hsm ⟨s1, s2, UInt8.toNat_inj.1 h⟩
                      have hxi : ∀ h : i + m < (bstr l).size, ((bstr l)[i + m]'h).toNat = (l.getD (i + m) 0).toNat := fun h => by
                        rw [List.getD_eq_getElem?_getD, List.getElem?_eq_getElem s1]; rfl
                      have hxj : ∀ h : j + m < (bstr l).size, ((bstr l)[j + m]'h).toNat = (l.getD (j + m) 0).toNat := fun h => by
                        rw [List.getD_eq_getElem?_getD, List.getElem?_eq_getElem s2]; rfl
                      generalize (l.getD (i + m) 0).toNat = a at *
                      generalize (l.getD (j + m) 0).toNat = b at *
                      have hbb : ((a : Int) == (b : Int)) = false := by rw [beq_eq_false_iff_ne]; omega
                      clear s3 hsm s1 s2
                      go_wp2_with fail
                      go_quiet (fail)
                      obtain ⟨w9, hw9⟩ : ∃ w9, w9 = wr.drewN nq := ⟨_, rfl⟩
                      rw [← hw9]
                      have HC9 : Hid (C3 w w9 l.length ga gr gc A R C) := Lib.hid (by rw [hw9]; exact HC3.out.drewN nq)
                      have HLC : Hid (IsLcp l i j m) := Lib.hid ⟨HM.out, HNS.out⟩
                      have cr2 := HC9.out.rr.num0 i (by rw [HC9.out.lenR]; exact HLT.out)
                      have cc2 := HC9.out.rc.num0 y (by rw [HC9.out.lenC]; exact HY.out)
                      have fc2 := HC9.out.rc.frozen0 y (by rw [nvals_length, HC9.out.lenC]; exact HY.out)
                      obtain ⟨yy, _, ey2, ry2⟩ := HRK.out i HLT.out
                      obtain rfl : yy = y := HS.out.inj l (by assumption) HY.out (by rw [ey2]; exact HEY.out.symm)
                      rw [ry2] at cr2
                      generalize C.getD yy 0 = c0 at cc2
                      have hwm : IntKind.i64.wrap ((m : Int) - 1) = (m : Int) - 1 := by rw [IntKind.wrap_i64]; omega
                      have hmx : max ((m : Int) - 1) 0 = ((m - 1 : Nat) : Int) := by omega
                      clear hw9 ry2 ey2
                      go_wp2_with fail
                      go_roundw

                      case rel =>
                        have hyy := HYY.out
                        refine ⟨i + 1, m - 1, C.set yy m, by go_num, rfl, by have := HLT.out; omega, Lib.hid ?_, Lib.hid (HC9.out.setC yy m HY.out)⟩
                        rw [hyy]
                        exact HK.out.put HS.out HC9.out.lenC (by have := HY.out; omega) (by rw [← hyy]; exact HEY.out) (by rw [← HJ.out]; exact HLC.out) hml
                      case measure => simp [intOf]; have := HLT.out; omega
                    · have d3 : decide ((j : Int) + (m : Int) < (l.length : Int)) = false := decide_eq_false (by omega)
                      clear hsm s1 s2
                      go_wp2_with fail
                      go_quiet (fail)
                      obtain ⟨w9, hw9⟩ : ∃ w9, w9 = wr.drewN nq := ⟨_, rfl⟩
                      rw [← hw9]
                      have HC9 : Hid (C3 w w9 l.length ga gr gc A R C) := Lib.hid (by rw [hw9]; exact HC3.out.drewN nq)
                      have HLC : Hid (IsLcp l i j m) := Lib.hid ⟨HM.out, HNS.out⟩
                      have cr2 := HC9.out.rr.num0 i (by rw [HC9.out.lenR]; exact HLT.out)
                      have cc2 := HC9.out.rc.num0 y (by rw [HC9.out.lenC]; exact HY.out)
                      have fc2 := HC9.out.rc.frozen0 y (by rw [nvals_length, HC9.out.lenC]; exact HY.out)
                      obtain ⟨yy, _, ey2, ry2⟩ := HRK.out i HLT.out
                      obtain rfl : yy = y := HS.out.inj l (by assumption) HY.out (by rw [ey2]; exact HEY.out.symm)
                      rw [ry2] at cr2
                      generalize C.getD yy 0 = c0 at cc2
                      have hwm : IntKind.i64.wrap ((m : Int) - 1) = (m : Int) - 1 := by rw [IntKind.wrap_i64]; omega
                      have hmx : max ((m : Int) - 1) 0 = ((m - 1 : Nat) : Int) := by omega
                      clear hw9 ry2 ey2
                      go_wp2_with fail
                      go_roundw

                      case rel =>
                        have hyy := HYY.out
                        refine ⟨i + 1, m - 1, C.set yy m, by go_num, rfl, by have := HLT.out; omega, Lib.hid ?_, Lib.hid (HC9.out.setC yy m HY.out)⟩
                        rw [hyy]
                        exact HK.out.put HS.out HC9.out.lenC (by have := HY.out; omega) (by rw [← hyy]; exact HEY.out) (by rw [← HJ.out]; exact HLC.out) hml
                      case measure => simp [intOf]; have := HLT.out; omega
                  · have d2 : decide ((i : Int) + (m : Int) < (l.length : Int)) = false := decide_eq_false (by omega)
                    clear hsm s1
                    go_wp2_with fail
                    go_quiet (fail)
                    obtain ⟨w9, hw9⟩ : ∃ w9, w9 = wr.drewN nq := ⟨_, rfl⟩
                    rw [← hw9]
                    have HC9 : Hid (C3 w w9 l.length ga gr gc A R C) := Lib.hid (by rw [hw9]; exact HC3.out.drewN nq)
                    have HLC : Hid (IsLcp l i j m) := Lib.hid ⟨HM.out, HNS.out⟩
                    have cr2 := HC9.out.rr.num0 i (by rw [HC9.out.lenR]; exact HLT.out)
                    have cc2 := HC9.out.rc.num0 y (by rw [HC9.out.lenC]; exact HY.out)
                    have fc2 := HC9.out.rc.frozen0 y (by rw [nvals_length, HC9.out.lenC]; exact HY.out)
                    obtain ⟨yy, _, ey2, ry2⟩ := HRK.out i HLT.out
                    obtain rfl : yy = y := HS.out.inj l (by assumption) HY.out (by rw [ey2]; exact HEY.out.symm)
                    rw [ry2] at cr2
                    generalize C.getD yy 0 = c0 at cc2
                    have hwm : IntKind.i64.wrap ((m : Int) - 1) = (m : Int) - 1 := by rw [IntKind.wrap_i64]; omega
                    have hmx : max ((m : Int) - 1) 0 = ((m - 1 : Nat) : Int) := by omega
                    clear hw9 ry2 ey2
                    go_wp2_with fail
                    go_roundw

                    case rel =>
                      have hyy := HYY.out
                      refine ⟨i + 1, m - 1, C.set yy m, by go_num, rfl, by have := HLT.out; omega, Lib.hid ?_, Lib.hid (HC9.out.setC yy m HY.out)⟩
                      rw [hyy]
                      exact HK.out.put HS.out HC9.out.lenC (by have := HY.out; omega) (by rw [← hyy]; exact HEY.out) (by rw [← HJ.out]; exact HLC.out) hml
                    case measure => simp [intOf]; have := HLT.out; omega
          · obtain rfl : i = l.length := by omega
            have d1 : decide ((l.length : Int) < (l.length : Int)) = false := by simp
            go_wp2_with fail
            go_ret2
            exact ⟨gc, A, C, rfl, HS.out, HK.out.commons HS.out HC3.out.lenC, HC3.out.rc, HC3.out.low.2, HC3.out.below⟩
end Go.Proofs.Ytenhblpegobbjaa
