/- Contract of package diff: Far. -/
import Derived.Test.YtmmkbjinkdgdbaaPlainDiff2
import Derived.Test.YtmmkbjinkdgdbaaChecked
import Derived.Test.YtmmkbjinkdgdbaaOwn
import Derived.Test.YtmmkbjinkdgdbaaInfo
namespace Go.Proofs.Ytmmkbjinkdgdbaa
open Go.RowKit Go.Maps
set_option linter.unusedVariables false
set_option linter.unusedSimpArgs false
theorem far_at (l : List UInt8) (k : Nat) (h : k < (bstr l).size) : (bstr l)[k]'h = l.getD k 0 := by
  have hk : k < l.length := by rwa [bstr_size] at h
  rw [List.getD_eq_getElem?_getD, List.getElem?_eq_getElem hk]
  rfl
set_option maxHeartbeats 1000000 in
set_option maxRecDepth 100000 in
theorem Far_any (l m : List UInt8) (w : World) (hlen : l.length + m.length ≤ 4000) :
    Calls Try.prog 51 #[.string (bstr l), .string (bstr m)] w fun e w' => (∃ d : Nat, e = .returned (.tuple #[.int .i64 (d : Int), .nilIface]) ∧ Diff.Least l m d) ∧ Below w.heap.size w w' := by
  have hd : decide ((4000 : Int) < (l.length : Int) + (m.length : Int)) = false := by rw [decide_eq_false_iff_not]; omega
  have hw0 : IntKind.i64.wrap ((l.length : Int) + (m.length : Int)) = (l.length : Int) + (m.length : Int) := IntWalk.i64_in _ ⟨by omega, by omega⟩
  have hmm := @run_makeMap Try.prog
  obtain ⟨w1, hins, hmap, hgr⟩ := (MapI.made (P := Try.prog) (k := 3) (e := 3) w).store (t := 131) Try.underlying131 Try.underlying3 Try.underlying3 (by decide) 1 0 rfl rfl
  have hb1 : Below w.heap.size w w1 := ((Below.refl w.heap.size w).alloc (Nat.le_refl _) (.map #[] 0)).grown hgr (by rw [World.size_alloc]; omega) (fun k e => by cases e; omega)
  have hB : Hid (w.heap.size = w.heap.size) := Lib.hid rfl
  go_enter Try.func51, Try.ntmps51
  go_wp2_with fail
  clear hins hmm hgr hw0 hd
  have hst : Diff.Rd l m 0 (updI (fun _ => 0) 1 0) := Diff.Rd.start _ (updI_same _ _ _)
  generalize updI (fun _ => 0) 1 0 = F0 at *
  generalize hB0 : w.heap.size = B at *
  have HB0 := Lib.hid hB0; clear hB0 hB
  have hzero : ∀ u : World, (zeroValue 3).run Try.prog u = .ok (.int .i64 0) u := fun u => by kernel_rfl
  have HZ := Lib.hid hzero; clear hzero
  go_loopw [9] (fun v9 wr => ∃ (d n : Nat) (F : Int → Int), v9 = .int .i64 (d : Int) ∧ n ≤ 1 + d * 9000 ∧ Hid (MapI Try.prog 3 3 wr B n F) ∧ Hid (Diff.Rd l m d F) ∧ Below B w wr) (fun v9 _ => l.length + m.length + 1 - (intOf v9).toNat)
  case atStart => exact ⟨0, 1, F0, rfl, by omega, Lib.hid hmap, Lib.hid hst, hb1⟩
  case round =>
    clear hst hmap hb1
    obtain ⟨d, n, F, rfl, hn, HM, HR, hb⟩ := hrel
    have hdl := HR.out.le
    go_wp2_with fail
    have hn' := hn
    go_loopw [10] (fun v10 wi => ∃ (K : Int) (n2 : Nat) (F2 : Int → Int), v10 = .int .i64 K ∧ -(d : Int) ≤ K ∧ (K - d) % 2 = 0 ∧ K ≤ d + 2 ∧ (n2 : Int) ≤ 1 + d * 9000 + (K + d) ∧ Hid (MapI Try.prog 3 3 wi B n2 F2) ∧ Hid (Diff.In l m d K F2) ∧ Below B w wi) (fun v10 _ => (d + 3 - intOf v10).toNat)
    case atStart => exact ⟨-(d : Int), n, F, rfl, by omega, by omega, by omega, by omega, HM, Lib.hid HR.out.inner, hb⟩
    case round =>
    clear hb HM HR
    obtain ⟨K, n2, F2, rfl, hK0, hpar, hK2, hn2, HM2, HIN, hb2⟩ := hrel
    have k3 : IntKind.i64.wrap (K - 1) = K - 1 := IntWalk.i64_in _ ⟨by omega, by omega⟩
    have k4 : IntKind.i64.wrap (K + 1) = K + 1 := IntWalk.i64_in _ ⟨by omega, by omega⟩
    have k5 : IntKind.i64.wrap (K + 2) = K + 2 := IntWalk.i64_in _ ⟨by omega, by omega⟩
    have hlt2 := HM2.out.lt
    have hBw : B ≤ wr.heap.size := by omega
    by_cases hKd : K ≤ (d : Int)
    · have k1 : decide (K ≤ (d : Int)) = true := by rw [decide_eq_true_eq]; exact hKd
      have hlk1 := HM2.out.look (t := 131) Try.underlying131 Try.underlying3 Try.underlying3 (HZ.out wr) (K - 1) (i64_wf _ (by omega) (by omega))
      have hlk2 := HM2.out.look (t := 131) Try.underlying131 Try.underlying3 Try.underlying3 (HZ.out wr) (K + 1) (i64_wf _ (by omega) (by omega))
      by_cases hA : K = -(d : Int)
      · have c1 : (K == -(d : Int)) = true := by rw [beq_iff_eq]; exact hA
        obtain ⟨x0, hx0, hsl0⟩ := HIN.out.from_right hpar hK0 hKd (.inl hA)
        rw [hx0] at hlk2
        have HSL0 := Lib.hid hsl0; clear hsl0 hx0
        have HA := Lib.hid hA; clear hA
        go_wp2_with fail
        clear hlk1 hlk2

        go_loopw [11] (fun v11 ws => ∃ (x n3 : Nat), v11 = .int .i64 (x : Int) ∧ Hid (Diff.Slide l m d K x) ∧ ws = wr.drewN n3) (fun v11 _ => l.length + d + 1 - (intOf v11).toNat)
        case atStart => exact ⟨x0, 0, rfl, HSL0, rfl⟩
        case round =>
          obtain ⟨x, n3, rfl, HSL, rfl⟩ := hrel
          obtain ⟨y, hy, hcm⟩ := HSL.out.comes
          have hwi := hcm.within
          clear hcm
          have t1 : IntKind.i64.wrap ((x : Int) - K) = (x : Int) - K := IntWalk.i64_in _ ⟨by omega, by omega⟩
          have t2 : (0 : Int) ≤ (x : Int) - K := by omega
          have t3 : ((x : Int) - K).toNat = y := by omega
          have t4 : (x : Int).toNat = x := by omega
          have t5 : (0 : Int) ≤ (x : Int) := by omega
          have t6 : IntKind.i64.wrap ((x : Int) + 1) = (x : Int) + 1 := IntWalk.i64_in _ ⟨by omega, by omega⟩
          have d2 : decide ((0 : Int) ≤ (x : Int) - K) = true := by rw [decide_eq_true_eq]; omega
          have d2b : decide (K ≤ (x : Int)) = true := by rw [decide_eq_true_eq]; omega
          have t9 : K ≤ (x : Int) := by omega
          by_cases hc1 : x < l.length
          · have d1 : decide ((x : Int) < (l.length : Int)) = true := by rw [decide_eq_true_eq]; omega
            have e1 : decide ((l.length : Int) ≤ (x : Int)) = false := by rw [decide_eq_false_iff_not]; omega
            have hend : ¬ Diff.Ended l m K x := fun h => by have := h.1; omega
            by_cases hc2 : y < m.length
            · have d3 : decide ((x : Int) - K < (m.length : Int)) = true := by rw [decide_eq_true_eq]; omega
              have t7 : (x : Int) < (l.length : Int) := by omega
              have t8 : (x : Int) - K < (m.length : Int) := by omega
              have b1 : ∀ h : x < (bstr l).size, ((bstr l)[x]'h).toNat = (l.getD x 0).toNat := fun h => by rw [far_at]
              have b2 : ∀ h : y < (bstr m).size, ((bstr m)[y]'h).toNat = (m.getD y 0).toNat := fun h => by rw [far_at]
              have g1 : l[x]? = some (l.getD x 0) := by rw [List.getD_eq_getElem?_getD, List.getElem?_eq_getElem hc1]; rfl
              have g2 : m[y]? = some (m.getD y 0) := by rw [List.getD_eq_getElem?_getD, List.getElem?_eq_getElem hc2]; rfl
              by_cases hc3 : l.getD x 0 = m.getD y 0
              · rw [hc3] at b1 g1
                have hstep := HSL.out.step hy _ g1 g2
                have HST := Lib.hid hstep; clear hstep hc3 g1 g2
                generalize (m.getD y 0).toNat = z at *
                have d4 : ((z : Int) == (z : Int)) = true := by simp
                go_wp2_with fail
                go_quiet (fail)
                go_wp2_with fail
                go_roundw
                case rel => exact ⟨x + 1, _, by go_num, HST.out |> Lib.hid, rfl⟩
                case measure => simp [intOf]; omega
              · have hne : ((l.getD x 0).toNat : Int) ≠ ((m.getD y 0).toNat : Int) := fun h => hc3 (UInt8.toNat_inj.mp (by omega))
                have d4 : (((l.getD x 0).toNat : Int) == ((m.getD y 0).toNat : Int)) = false := by rw [beq_eq_false_iff_ne]; exact hne
                have hstuck : Diff.Stuck l m x K := fun y' hy' v h1 h2 => by
                  obtain rfl : y' = y := by omega
                  rw [g1] at h1; rw [g2] at h2
                  exact hc3 (by injection h1 with h1; injection h2 with h2; rw [h1, h2])
                clear hc3 hne g1 g2
                generalize (l.getD x 0).toNat = z1 at *
                generalize (m.getD y 0).toNat = z2 at *
                go_wp2_with fail
                go_quiet (fail)
                have hfar := HSL.out.far hstuck
                have HF := Lib.hid hfar; clear hfar hstuck
                have hmax : n2 < maxLen := by show n2 < 9223372036854775807; omega
                go_wp2_with (at_mapUpdate; refine wpList_storeI _ rfl _ _ _ 131 rfl 3 3 Try.underlying131 Try.underlying3 Try.underlying3 B n2 F2 rfl ((HM2.out.drewN _).drewN _) hmax K (x : Int) rfl rfl (i64_wf _ (by omega) (by omega)) (i64_wf _ (by omega) (by omega)) ?_; intro w4 hm4 hg4)
                have hn4 := HIN.out.next hpar hKd HF.out hend
                go_roundw
                case rel => exact ⟨K + 2, n2 + 1, updI F2 K (x : Int), rfl, by omega, by omega, by omega, by omega, Lib.hid hm4, Lib.hid hn4, (bdrewN (bdrewN hb2 _) _).grown hg4 hBw (fun k e => by cases e; omega)⟩
                case measure => simp [intOf]; omega
            · have d3 : decide ((x : Int) - K < (m.length : Int)) = false := by rw [decide_eq_false_iff_not]; omega
              have hstuck : Diff.Stuck l m x K := fun y' hy' v h1 h2 => by
                have := (List.getElem?_eq_some_iff.mp h2).1
                omega
              go_wp2_with fail
              go_quiet (fail)
              have hfar := HSL.out.far hstuck
              have HF := Lib.hid hfar; clear hfar hstuck
              have hmax : n2 < maxLen := by show n2 < 9223372036854775807; omega
              go_wp2_with (at_mapUpdate; refine wpList_storeI _ rfl _ _ _ 131 rfl 3 3 Try.underlying131 Try.underlying3 Try.underlying3 B n2 F2 rfl ((HM2.out.drewN _).drewN _) hmax K (x : Int) rfl rfl (i64_wf _ (by omega) (by omega)) (i64_wf _ (by omega) (by omega)) ?_; intro w4 hm4 hg4)
              have hn4 := HIN.out.next hpar hKd HF.out hend
              go_roundw
              case rel => exact ⟨K + 2, n2 + 1, updI F2 K (x : Int), rfl, by omega, by omega, by omega, by omega, Lib.hid hm4, Lib.hid hn4, (bdrewN (bdrewN hb2 _) _).grown hg4 hBw (fun k e => by cases e; omega)⟩
              case measure => simp [intOf]; omega
          · have d1 : decide ((x : Int) < (l.length : Int)) = false := by rw [decide_eq_false_iff_not]; omega
            have e1 : decide ((l.length : Int) ≤ (x : Int)) = true := by rw [decide_eq_true_eq]; omega
            have hstuck : Diff.Stuck l m x K := fun y' hy' v h1 h2 => by
              have := (List.getElem?_eq_some_iff.mp h1).1
              omega
            by_cases hc2 : y < m.length
            · have e2 : decide ((m.length : Int) ≤ (x : Int) - K) = false := by rw [decide_eq_false_iff_not]; omega
              have hend : ¬ Diff.Ended l m K x := fun h => by have := h.2; omega
              go_wp2_with fail
              go_quiet (fail)
              have hfar := HSL.out.far hstuck
              have HF := Lib.hid hfar; clear hfar hstuck
              have hmax : n2 < maxLen := by show n2 < 9223372036854775807; omega
              go_wp2_with (at_mapUpdate; refine wpList_storeI _ rfl _ _ _ 131 rfl 3 3 Try.underlying131 Try.underlying3 Try.underlying3 B n2 F2 rfl ((HM2.out.drewN _).drewN _) hmax K (x : Int) rfl rfl (i64_wf _ (by omega) (by omega)) (i64_wf _ (by omega) (by omega)) ?_; intro w4 hm4 hg4)
              have hn4 := HIN.out.next hpar hKd HF.out hend
              go_roundw
              case rel => exact ⟨K + 2, n2 + 1, updI F2 K (x : Int), rfl, by omega, by omega, by omega, by omega, Lib.hid hm4, Lib.hid hn4, (bdrewN (bdrewN hb2 _) _).grown hg4 hBw (fun k e => by cases e; omega)⟩
              case measure => simp [intOf]; omega
            · have e2 : decide ((m.length : Int) ≤ (x : Int) - K) = true := by rw [decide_eq_true_eq]; omega
              have hend : Diff.Ended l m K x := ⟨by omega, by omega⟩
              go_wp2_with fail
              go_quiet (fail)
              have hfar := HSL.out.far hstuck
              have HF := Lib.hid hfar; clear hfar hstuck
              have hmax : n2 < maxLen := by show n2 < 9223372036854775807; omega
              go_wp2_with (at_mapUpdate; refine wpList_storeI _ rfl _ _ _ 131 rfl 3 3 Try.underlying131 Try.underlying3 Try.underlying3 B n2 F2 rfl ((HM2.out.drewN _).drewN _) hmax K (x : Int) rfl rfl (i64_wf _ (by omega) (by omega)) (i64_wf _ (by omega) (by omega)) ?_; intro w4 hm4 hg4)
              have hl4 := HIN.out.least HF.out hend
              go_ret2
              refine ⟨⟨d, rfl, hl4⟩, ?_⟩
              rw [HB0.out]
              exact (bdrewN (bdrewN hb2 _) _).grown hg4 hBw (fun k e => by cases e; omega)
      · have c1 : (K == -(d : Int)) = false := by rw [beq_eq_false_iff_ne]; exact hA
        by_cases hD : K = (d : Int)
        · have c2 : (K != (d : Int)) = false := by rw [bne_eq_false_iff_eq]; exact hD
          obtain ⟨x0, hx0, hsl0⟩ := HIN.out.from_left hpar hK0 hKd hA (.inl hD)
          have tx : IntKind.i64.wrap (F2 (K - 1) + 1) = (x0 : Int) := by rw [hx0]; have := (hsl0.comes).choose_spec.2.within; exact IntWalk.i64_in _ ⟨by omega, by omega⟩
          have HSL0 := Lib.hid hsl0; clear hsl0 hx0
          have HD := Lib.hid hD; clear hD
          go_wp2_with fail
          clear hlk1 hlk2

          go_loopw [11] (fun v11 ws => ∃ (x n3 : Nat), v11 = .int .i64 (x : Int) ∧ Hid (Diff.Slide l m d K x) ∧ ws = wr.drewN n3) (fun v11 _ => l.length + d + 1 - (intOf v11).toNat)
          case atStart => exact ⟨x0, 0, rfl, HSL0, rfl⟩
          case round =>
            obtain ⟨x, n3, rfl, HSL, rfl⟩ := hrel
            obtain ⟨y, hy, hcm⟩ := HSL.out.comes
            have hwi := hcm.within
            clear hcm
            have t1 : IntKind.i64.wrap ((x : Int) - K) = (x : Int) - K := IntWalk.i64_in _ ⟨by omega, by omega⟩
            have t2 : (0 : Int) ≤ (x : Int) - K := by omega
            have t3 : ((x : Int) - K).toNat = y := by omega
            have t4 : (x : Int).toNat = x := by omega
            have t5 : (0 : Int) ≤ (x : Int) := by omega
            have t6 : IntKind.i64.wrap ((x : Int) + 1) = (x : Int) + 1 := IntWalk.i64_in _ ⟨by omega, by omega⟩
            have d2 : decide ((0 : Int) ≤ (x : Int) - K) = true := by rw [decide_eq_true_eq]; omega
            have d2b : decide (K ≤ (x : Int)) = true := by rw [decide_eq_true_eq]; omega
            have t9 : K ≤ (x : Int) := by omega
            by_cases hc1 : x < l.length
            · have d1 : decide ((x : Int) < (l.length : Int)) = true := by rw [decide_eq_true_eq]; omega
              have e1 : decide ((l.length : Int) ≤ (x : Int)) = false := by rw [decide_eq_false_iff_not]; omega
              have hend : ¬ Diff.Ended l m K x := fun h => by have := h.1; omega
              by_cases hc2 : y < m.length
              · have d3 : decide ((x : Int) - K < (m.length : Int)) = true := by rw [decide_eq_true_eq]; omega
                have t7 : (x : Int) < (l.length : Int) := by omega
                have t8 : (x : Int) - K < (m.length : Int) := by omega
                have b1 : ∀ h : x < (bstr l).size, ((bstr l)[x]'h).toNat = (l.getD x 0).toNat := fun h => by rw [far_at]
                have b2 : ∀ h : y < (bstr m).size, ((bstr m)[y]'h).toNat = (m.getD y 0).toNat := fun h => by rw [far_at]
                have g1 : l[x]? = some (l.getD x 0) := by rw [List.getD_eq_getElem?_getD, List.getElem?_eq_getElem hc1]; rfl
                have g2 : m[y]? = some (m.getD y 0) := by rw [List.getD_eq_getElem?_getD, List.getElem?_eq_getElem hc2]; rfl
                by_cases hc3 : l.getD x 0 = m.getD y 0
                · rw [hc3] at b1 g1
                  have hstep := HSL.out.step hy _ g1 g2
                  have HST := Lib.hid hstep; clear hstep hc3 g1 g2
                  generalize (m.getD y 0).toNat = z at *
                  have d4 : ((z : Int) == (z : Int)) = true := by simp
                  go_wp2_with fail
                  go_quiet (fail)
                  go_wp2_with fail
                  go_roundw
                  case rel => exact ⟨x + 1, _, by go_num, HST.out |> Lib.hid, rfl⟩
                  case measure => simp [intOf]; omega
                · have hne : ((l.getD x 0).toNat : Int) ≠ ((m.getD y 0).toNat : Int) := fun h => hc3 (UInt8.toNat_inj.mp (by omega))
                  have d4 : (((l.getD x 0).toNat : Int) == ((m.getD y 0).toNat : Int)) = false := by rw [beq_eq_false_iff_ne]; exact hne
                  have hstuck : Diff.Stuck l m x K := fun y' hy' v h1 h2 => by
                    obtain rfl : y' = y := by omega
                    rw [g1] at h1; rw [g2] at h2
                    exact hc3 (by injection h1 with h1; injection h2 with h2; rw [h1, h2])
                  clear hc3 hne g1 g2
                  generalize (l.getD x 0).toNat = z1 at *
                  generalize (m.getD y 0).toNat = z2 at *
                  go_wp2_with fail
                  go_quiet (fail)
                  have hfar := HSL.out.far hstuck
                  have HF := Lib.hid hfar; clear hfar hstuck
                  have hmax : n2 < maxLen := by show n2 < 9223372036854775807; omega
                  go_wp2_with (at_mapUpdate; refine wpList_storeI _ rfl _ _ _ 131 rfl 3 3 Try.underlying131 Try.underlying3 Try.underlying3 B n2 F2 rfl ((HM2.out.drewN _).drewN _) hmax K (x : Int) rfl rfl (i64_wf _ (by omega) (by omega)) (i64_wf _ (by omega) (by omega)) ?_; intro w4 hm4 hg4)
                  have hn4 := HIN.out.next hpar hKd HF.out hend
                  go_roundw
                  case rel => exact ⟨K + 2, n2 + 1, updI F2 K (x : Int), rfl, by omega, by omega, by omega, by omega, Lib.hid hm4, Lib.hid hn4, (bdrewN (bdrewN hb2 _) _).grown hg4 hBw (fun k e => by cases e; omega)⟩
                  case measure => simp [intOf]; omega
              · have d3 : decide ((x : Int) - K < (m.length : Int)) = false := by rw [decide_eq_false_iff_not]; omega
                have hstuck : Diff.Stuck l m x K := fun y' hy' v h1 h2 => by
                  have := (List.getElem?_eq_some_iff.mp h2).1
                  omega
                go_wp2_with fail
                go_quiet (fail)
                have hfar := HSL.out.far hstuck
                have HF := Lib.hid hfar; clear hfar hstuck
                have hmax : n2 < maxLen := by show n2 < 9223372036854775807; omega
                go_wp2_with (at_mapUpdate; refine wpList_storeI _ rfl _ _ _ 131 rfl 3 3 Try.underlying131 Try.underlying3 Try.underlying3 B n2 F2 rfl ((HM2.out.drewN _).drewN _) hmax K (x : Int) rfl rfl (i64_wf _ (by omega) (by omega)) (i64_wf _ (by omega) (by omega)) ?_; intro w4 hm4 hg4)
                have hn4 := HIN.out.next hpar hKd HF.out hend
                go_roundw
                case rel => exact ⟨K + 2, n2 + 1, updI F2 K (x : Int), rfl, by omega, by omega, by omega, by omega, Lib.hid hm4, Lib.hid hn4, (bdrewN (bdrewN hb2 _) _).grown hg4 hBw (fun k e => by cases e; omega)⟩
                case measure => simp [intOf]; omega
            · have d1 : decide ((x : Int) < (l.length : Int)) = false := by rw [decide_eq_false_iff_not]; omega
              have e1 : decide ((l.length : Int) ≤ (x : Int)) = true := by rw [decide_eq_true_eq]; omega
              have hstuck : Diff.Stuck l m x K := fun y' hy' v h1 h2 => by
                have := (List.getElem?_eq_some_iff.mp h1).1
                omega
              by_cases hc2 : y < m.length
              · have e2 : decide ((m.length : Int) ≤ (x : Int) - K) = false := by rw [decide_eq_false_iff_not]; omega
                have hend : ¬ Diff.Ended l m K x := fun h => by have := h.2; omega
                go_wp2_with fail
                go_quiet (fail)
                have hfar := HSL.out.far hstuck
                have HF := Lib.hid hfar; clear hfar hstuck
                have hmax : n2 < maxLen := by show n2 < 9223372036854775807; omega
                go_wp2_with (at_mapUpdate; refine wpList_storeI _ rfl _ _ _ 131 rfl 3 3 Try.underlying131 Try.underlying3 Try.underlying3 B n2 F2 rfl ((HM2.out.drewN _).drewN _) hmax K (x : Int) rfl rfl (i64_wf _ (by omega) (by omega)) (i64_wf _ (by omega) (by omega)) ?_; intro w4 hm4 hg4)
                have hn4 := HIN.out.next hpar hKd HF.out hend
                go_roundw
                case rel => exact ⟨K + 2, n2 + 1, updI F2 K (x : Int), rfl, by omega, by omega, by omega, by omega, Lib.hid hm4, Lib.hid hn4, (bdrewN (bdrewN hb2 _) _).grown hg4 hBw (fun k e => by cases e; omega)⟩
                case measure => simp [intOf]; omega
              · have e2 : decide ((m.length : Int) ≤ (x : Int) - K) = true := by rw [decide_eq_true_eq]; omega
                have hend : Diff.Ended l m K x := ⟨by omega, by omega⟩
                go_wp2_with fail
                go_quiet (fail)
                have hfar := HSL.out.far hstuck
                have HF := Lib.hid hfar; clear hfar hstuck
                have hmax : n2 < maxLen := by show n2 < 9223372036854775807; omega
                go_wp2_with (at_mapUpdate; refine wpList_storeI _ rfl _ _ _ 131 rfl 3 3 Try.underlying131 Try.underlying3 Try.underlying3 B n2 F2 rfl ((HM2.out.drewN _).drewN _) hmax K (x : Int) rfl rfl (i64_wf _ (by omega) (by omega)) (i64_wf _ (by omega) (by omega)) ?_; intro w4 hm4 hg4)
                have hl4 := HIN.out.least HF.out hend
                go_ret2
                refine ⟨⟨d, rfl, hl4⟩, ?_⟩
                rw [HB0.out]
                exact (bdrewN (bdrewN hb2 _) _).grown hg4 hBw (fun k e => by cases e; omega)
        · have c2 : (K != (d : Int)) = true := by rw [bne_iff_ne]; exact hD
          by_cases hL : F2 (K - 1) < F2 (K + 1)
          · have c3 : decide (F2 (K - 1) < F2 (K + 1)) = true := by rw [decide_eq_true_eq]; exact hL
            obtain ⟨x0, hx0, hsl0⟩ := HIN.out.from_right hpar hK0 hKd (.inr ⟨hD, hL⟩)
            rw [hx0] at hlk2 c3
            have HSL0 := Lib.hid hsl0; clear hsl0 hx0
            have HD := Lib.hid hD; clear hD hL
            go_wp2_with fail
            clear hlk1 hlk2

            go_loopw [11] (fun v11 ws => ∃ (x n3 : Nat), v11 = .int .i64 (x : Int) ∧ Hid (Diff.Slide l m d K x) ∧ ws = wr.drewN n3) (fun v11 _ => l.length + d + 1 - (intOf v11).toNat)
            case atStart => exact ⟨x0, 0, rfl, HSL0, rfl⟩
            case round =>
              obtain ⟨x, n3, rfl, HSL, rfl⟩ := hrel
              obtain ⟨y, hy, hcm⟩ := HSL.out.comes
              have hwi := hcm.within
              clear hcm
              have t1 : IntKind.i64.wrap ((x : Int) - K) = (x : Int) - K := IntWalk.i64_in _ ⟨by omega, by omega⟩
              have t2 : (0 : Int) ≤ (x : Int) - K := by omega
              have t3 : ((x : Int) - K).toNat = y := by omega
              have t4 : (x : Int).toNat = x := by omega
              have t5 : (0 : Int) ≤ (x : Int) := by omega
              have t6 : IntKind.i64.wrap ((x : Int) + 1) = (x : Int) + 1 := IntWalk.i64_in _ ⟨by omega, by omega⟩
              have d2 : decide ((0 : Int) ≤ (x : Int) - K) = true := by rw [decide_eq_true_eq]; omega
              have d2b : decide (K ≤ (x : Int)) = true := by rw [decide_eq_true_eq]; omega
              have t9 : K ≤ (x : Int) := by omega
              by_cases hc1 : x < l.length
              · have d1 : decide ((x : Int) < (l.length : Int)) = true := by rw [decide_eq_true_eq]; omega
                have e1 : decide ((l.length : Int) ≤ (x : Int)) = false := by rw [decide_eq_false_iff_not]; omega
                have hend : ¬ Diff.Ended l m K x := fun h => by have := h.1; omega
                by_cases hc2 : y < m.length
                · have d3 : decide ((x : Int) - K < (m.length : Int)) = true := by rw [decide_eq_true_eq]; omega
                  have t7 : (x : Int) < (l.length : Int) := by omega
                  have t8 : (x : Int) - K < (m.length : Int) := by omega
                  have b1 : ∀ h : x < (bstr l).size, ((bstr l)[x]'h).toNat = (l.getD x 0).toNat := fun h => by rw [far_at]
                  have b2 : ∀ h : y < (bstr m).size, ((bstr m)[y]'h).toNat = (m.getD y 0).toNat := fun h => by rw [far_at]
                  have g1 : l[x]? = some (l.getD x 0) := by rw [List.getD_eq_getElem?_getD, List.getElem?_eq_getElem hc1]; rfl
                  have g2 : m[y]? = some (m.getD y 0) := by rw [List.getD_eq_getElem?_getD, List.getElem?_eq_getElem hc2]; rfl
                  by_cases hc3 : l.getD x 0 = m.getD y 0
                  · rw [hc3] at b1 g1
                    have hstep := HSL.out.step hy _ g1 g2
                    have HST := Lib.hid hstep; clear hstep hc3 g1 g2
                    generalize (m.getD y 0).toNat = z at *
                    have d4 : ((z : Int) == (z : Int)) = true := by simp
                    go_wp2_with fail
                    go_quiet (fail)
                    go_wp2_with fail
                    go_roundw
                    case rel => exact ⟨x + 1, _, by go_num, HST.out |> Lib.hid, rfl⟩
                    case measure => simp [intOf]; omega
                  · have hne : ((l.getD x 0).toNat : Int) ≠ ((m.getD y 0).toNat : Int) := fun h => hc3 (UInt8.toNat_inj.mp (by omega))
                    have d4 : (((l.getD x 0).toNat : Int) == ((m.getD y 0).toNat : Int)) = false := by rw [beq_eq_false_iff_ne]; exact hne
                    have hstuck : Diff.Stuck l m x K := fun y' hy' v h1 h2 => by
                      obtain rfl : y' = y := by omega
                      rw [g1] at h1; rw [g2] at h2
                      exact hc3 (by injection h1 with h1; injection h2 with h2; rw [h1, h2])
                    clear hc3 hne g1 g2
                    generalize (l.getD x 0).toNat = z1 at *
                    generalize (m.getD y 0).toNat = z2 at *
                    go_wp2_with fail
                    go_quiet (fail)
                    have hfar := HSL.out.far hstuck
                    have HF := Lib.hid hfar; clear hfar hstuck
                    have hmax : n2 < maxLen := by show n2 < 9223372036854775807; omega
                    go_wp2_with (at_mapUpdate; refine wpList_storeI _ rfl _ _ _ 131 rfl 3 3 Try.underlying131 Try.underlying3 Try.underlying3 B n2 F2 rfl ((HM2.out.drewN _).drewN _) hmax K (x : Int) rfl rfl (i64_wf _ (by omega) (by omega)) (i64_wf _ (by omega) (by omega)) ?_; intro w4 hm4 hg4)
                    have hn4 := HIN.out.next hpar hKd HF.out hend
                    go_roundw
                    case rel => exact ⟨K + 2, n2 + 1, updI F2 K (x : Int), rfl, by omega, by omega, by omega, by omega, Lib.hid hm4, Lib.hid hn4, (bdrewN (bdrewN hb2 _) _).grown hg4 hBw (fun k e => by cases e; omega)⟩
                    case measure => simp [intOf]; omega
                · have d3 : decide ((x : Int) - K < (m.length : Int)) = false := by rw [decide_eq_false_iff_not]; omega
                  have hstuck : Diff.Stuck l m x K := fun y' hy' v h1 h2 => by
                    have := (List.getElem?_eq_some_iff.mp h2).1
                    omega
                  go_wp2_with fail
                  go_quiet (fail)
                  have hfar := HSL.out.far hstuck
                  have HF := Lib.hid hfar; clear hfar hstuck
                  have hmax : n2 < maxLen := by show n2 < 9223372036854775807; omega
                  go_wp2_with (at_mapUpdate; refine wpList_storeI _ rfl _ _ _ 131 rfl 3 3 Try.underlying131 Try.underlying3 Try.underlying3 B n2 F2 rfl ((HM2.out.drewN _).drewN _) hmax K (x : Int) rfl rfl (i64_wf _ (by omega) (by omega)) (i64_wf _ (by omega) (by omega)) ?_; intro w4 hm4 hg4)
                  have hn4 := HIN.out.next hpar hKd HF.out hend
                  go_roundw
                  case rel => exact ⟨K + 2, n2 + 1, updI F2 K (x : Int), rfl, by omega, by omega, by omega, by omega, Lib.hid hm4, Lib.hid hn4, (bdrewN (bdrewN hb2 _) _).grown hg4 hBw (fun k e => by cases e; omega)⟩
                  case measure => simp [intOf]; omega
              · have d1 : decide ((x : Int) < (l.length : Int)) = false := by rw [decide_eq_false_iff_not]; omega
                have e1 : decide ((l.length : Int) ≤ (x : Int)) = true := by rw [decide_eq_true_eq]; omega
                have hstuck : Diff.Stuck l m x K := fun y' hy' v h1 h2 => by
                  have := (List.getElem?_eq_some_iff.mp h1).1
                  omega
                by_cases hc2 : y < m.length
                · have e2 : decide ((m.length : Int) ≤ (x : Int) - K) = false := by rw [decide_eq_false_iff_not]; omega
                  have hend : ¬ Diff.Ended l m K x := fun h => by have := h.2; omega
                  go_wp2_with fail
                  go_quiet (fail)
                  have hfar := HSL.out.far hstuck
                  have HF := Lib.hid hfar; clear hfar hstuck
                  have hmax : n2 < maxLen := by show n2 < 9223372036854775807; omega
                  go_wp2_with (at_mapUpdate; refine wpList_storeI _ rfl _ _ _ 131 rfl 3 3 Try.underlying131 Try.underlying3 Try.underlying3 B n2 F2 rfl ((HM2.out.drewN _).drewN _) hmax K (x : Int) rfl rfl (i64_wf _ (by omega) (by omega)) (i64_wf _ (by omega) (by omega)) ?_; intro w4 hm4 hg4)
                  have hn4 := HIN.out.next hpar hKd HF.out hend
                  go_roundw
                  case rel => exact ⟨K + 2, n2 + 1, updI F2 K (x : Int), rfl, by omega, by omega, by omega, by omega, Lib.hid hm4, Lib.hid hn4, (bdrewN (bdrewN hb2 _) _).grown hg4 hBw (fun k e => by cases e; omega)⟩
                  case measure => simp [intOf]; omega
                · have e2 : decide ((m.length : Int) ≤ (x : Int) - K) = true := by rw [decide_eq_true_eq]; omega
                  have hend : Diff.Ended l m K x := ⟨by omega, by omega⟩
                  go_wp2_with fail
                  go_quiet (fail)
                  have hfar := HSL.out.far hstuck
                  have HF := Lib.hid hfar; clear hfar hstuck
                  have hmax : n2 < maxLen := by show n2 < 9223372036854775807; omega
                  go_wp2_with (at_mapUpdate; refine wpList_storeI _ rfl _ _ _ 131 rfl 3 3 Try.underlying131 Try.underlying3 Try.underlying3 B n2 F2 rfl ((HM2.out.drewN _).drewN _) hmax K (x : Int) rfl rfl (i64_wf _ (by omega) (by omega)) (i64_wf _ (by omega) (by omega)) ?_; intro w4 hm4 hg4)
                  have hl4 := HIN.out.least HF.out hend
                  go_ret2
                  refine ⟨⟨d, rfl, hl4⟩, ?_⟩
                  rw [HB0.out]
                  exact (bdrewN (bdrewN hb2 _) _).grown hg4 hBw (fun k e => by cases e; omega)
          · have c3 : decide (F2 (K - 1) < F2 (K + 1)) = false := by rw [decide_eq_false_iff_not]; exact hL
            obtain ⟨x0, hx0, hsl0⟩ := HIN.out.from_left hpar hK0 hKd hA (.inr (by omega))
            have tx : IntKind.i64.wrap (F2 (K - 1) + 1) = (x0 : Int) := by rw [hx0]; have := (hsl0.comes).choose_spec.2.within; exact IntWalk.i64_in _ ⟨by omega, by omega⟩
            have HSL0 := Lib.hid hsl0; clear hsl0 hx0
            have HD := Lib.hid hD; clear hD hL
            go_wp2_with fail
            clear hlk1 hlk2

            go_loopw [11] (fun v11 ws => ∃ (x n3 : Nat), v11 = .int .i64 (x : Int) ∧ Hid (Diff.Slide l m d K x) ∧ ws = wr.drewN n3) (fun v11 _ => l.length + d + 1 - (intOf v11).toNat)
            case atStart => exact ⟨x0, 0, rfl, HSL0, rfl⟩
            case round =>
              obtain ⟨x, n3, rfl, HSL, rfl⟩ := hrel
              obtain ⟨y, hy, hcm⟩ := HSL.out.comes
              have hwi := hcm.within
              clear hcm
              have t1 : IntKind.i64.wrap ((x : Int) - K) = (x : Int) - K := IntWalk.i64_in _ ⟨by omega, by omega⟩
              have t2 : (0 : Int) ≤ (x : Int) - K := by omega
              have t3 : ((x : Int) - K).toNat = y := by omega
              have t4 : (x : Int).toNat = x := by omega
              have t5 : (0 : Int) ≤ (x : Int) := by omega
              have t6 : IntKind.i64.wrap ((x : Int) + 1) = (x : Int) + 1 := IntWalk.i64_in _ ⟨by omega, by omega⟩
              have d2 : decide ((0 : Int) ≤ (x : Int) - K) = true := by rw [decide_eq_true_eq]; omega
              have d2b : decide (K ≤ (x : Int)) = true := by rw [decide_eq_true_eq]; omega
              have t9 : K ≤ (x : Int) := by omega
              by_cases hc1 : x < l.length
              · have d1 : decide ((x : Int) < (l.length : Int)) = true := by rw [decide_eq_true_eq]; omega
                have e1 : decide ((l.length : Int) ≤ (x : Int)) = false := by rw [decide_eq_false_iff_not]; omega
                have hend : ¬ Diff.Ended l m K x := fun h => by have := h.1; omega
                by_cases hc2 : y < m.length
                · have d3 : decide ((x : Int) - K < (m.length : Int)) = true := by rw [decide_eq_true_eq]; omega
                  have t7 : (x : Int) < (l.length : Int) := by omega
                  have t8 : (x : Int) - K < (m.length : Int) := by omega
                  have b1 : ∀ h : x < (bstr l).size, ((bstr l)[x]'h).toNat = (l.getD x 0).toNat := fun h => by rw [far_at]
                  have b2 : ∀ h : y < (bstr m).size, ((bstr m)[y]'h).toNat = (m.getD y 0).toNat := fun h => by rw [far_at]
                  have g1 : l[x]? = some (l.getD x 0) := by rw [List.getD_eq_getElem?_getD, List.getElem?_eq_getElem hc1]; rfl
                  have g2 : m[y]? = some (m.getD y 0) := by rw [List.getD_eq_getElem?_getD, List.getElem?_eq_getElem hc2]; rfl
                  by_cases hc3 : l.getD x 0 = m.getD y 0
                  · rw [hc3] at b1 g1
                    have hstep := HSL.out.step hy _ g1 g2
                    have HST := Lib.hid hstep; clear hstep hc3 g1 g2
                    generalize (m.getD y 0).toNat = z at *
                    have d4 : ((z : Int) == (z : Int)) = true := by simp
                    go_wp2_with fail
                    go_quiet (fail)
                    go_wp2_with fail
                    go_roundw
                    case rel => exact ⟨x + 1, _, by go_num, HST.out |> Lib.hid, rfl⟩
                    case measure => simp [intOf]; omega
                  · have hne : ((l.getD x 0).toNat : Int) ≠ ((m.getD y 0).toNat : Int) := fun h => hc3 (UInt8.toNat_inj.mp (by omega))
                    have d4 : (((l.getD x 0).toNat : Int) == ((m.getD y 0).toNat : Int)) = false := by rw [beq_eq_false_iff_ne]; exact hne
                    have hstuck : Diff.Stuck l m x K := fun y' hy' v h1 h2 => by
                      obtain rfl : y' = y := by omega
                      rw [g1] at h1; rw [g2] at h2
                      exact hc3 (by injection h1 with h1; injection h2 with h2; rw [h1, h2])
                    clear hc3 hne g1 g2
                    generalize (l.getD x 0).toNat = z1 at *
                    generalize (m.getD y 0).toNat = z2 at *
                    go_wp2_with fail
                    go_quiet (fail)
                    have hfar := HSL.out.far hstuck
                    have HF := Lib.hid hfar; clear hfar hstuck
                    have hmax : n2 < maxLen := by show n2 < 9223372036854775807; omega
                    go_wp2_with (at_mapUpdate; refine wpList_storeI _ rfl _ _ _ 131 rfl 3 3 Try.underlying131 Try.underlying3 Try.underlying3 B n2 F2 rfl ((HM2.out.drewN _).drewN _) hmax K (x : Int) rfl rfl (i64_wf _ (by omega) (by omega)) (i64_wf _ (by omega) (by omega)) ?_; intro w4 hm4 hg4)
                    have hn4 := HIN.out.next hpar hKd HF.out hend
                    go_roundw
                    case rel => exact ⟨K + 2, n2 + 1, updI F2 K (x : Int), rfl, by omega, by omega, by omega, by omega, Lib.hid hm4, Lib.hid hn4, (bdrewN (bdrewN hb2 _) _).grown hg4 hBw (fun k e => by cases e; omega)⟩
                    case measure => simp [intOf]; omega
                · have d3 : decide ((x : Int) - K < (m.length : Int)) = false := by rw [decide_eq_false_iff_not]; omega
                  have hstuck : Diff.Stuck l m x K := fun y' hy' v h1 h2 => by
                    have := (List.getElem?_eq_some_iff.mp h2).1
                    omega
                  go_wp2_with fail
                  go_quiet (fail)
                  have hfar := HSL.out.far hstuck
                  have HF := Lib.hid hfar; clear hfar hstuck
                  have hmax : n2 < maxLen := by show n2 < 9223372036854775807; omega
                  go_wp2_with (at_mapUpdate; refine wpList_storeI _ rfl _ _ _ 131 rfl 3 3 Try.underlying131 Try.underlying3 Try.underlying3 B n2 F2 rfl ((HM2.out.drewN _).drewN _) hmax K (x : Int) rfl rfl (i64_wf _ (by omega) (by omega)) (i64_wf _ (by omega) (by omega)) ?_; intro w4 hm4 hg4)
                  have hn4 := HIN.out.next hpar hKd HF.out hend
                  go_roundw
                  case rel => exact ⟨K + 2, n2 + 1, updI F2 K (x : Int), rfl, by omega, by omega, by omega, by omega, Lib.hid hm4, Lib.hid hn4, (bdrewN (bdrewN hb2 _) _).grown hg4 hBw (fun k e => by cases e; omega)⟩
                  case measure => simp [intOf]; omega
              · have d1 : decide ((x : Int) < (l.length : Int)) = false := by rw [decide_eq_false_iff_not]; omega
                have e1 : decide ((l.length : Int) ≤ (x : Int)) = true := by rw [decide_eq_true_eq]; omega
                have hstuck : Diff.Stuck l m x K := fun y' hy' v h1 h2 => by
                  have := (List.getElem?_eq_some_iff.mp h1).1
                  omega
                by_cases hc2 : y < m.length
                · have e2 : decide ((m.length : Int) ≤ (x : Int) - K) = false := by rw [decide_eq_false_iff_not]; omega
                  have hend : ¬ Diff.Ended l m K x := fun h => by have := h.2; omega
                  go_wp2_with fail
                  go_quiet (fail)
                  have hfar := HSL.out.far hstuck
                  have HF := Lib.hid hfar; clear hfar hstuck
                  have hmax : n2 < maxLen := by show n2 < 9223372036854775807; omega
                  go_wp2_with (at_mapUpdate; refine wpList_storeI _ rfl _ _ _ 131 rfl 3 3 Try.underlying131 Try.underlying3 Try.underlying3 B n2 F2 rfl ((HM2.out.drewN _).drewN _) hmax K (x : Int) rfl rfl (i64_wf _ (by omega) (by omega)) (i64_wf _ (by omega) (by omega)) ?_; intro w4 hm4 hg4)
                  have hn4 := HIN.out.next hpar hKd HF.out hend
                  go_roundw
                  case rel => exact ⟨K + 2, n2 + 1, updI F2 K (x : Int), rfl, by omega, by omega, by omega, by omega, Lib.hid hm4, Lib.hid hn4, (bdrewN (bdrewN hb2 _) _).grown hg4 hBw (fun k e => by cases e; omega)⟩
                  case measure => simp [intOf]; omega
                · have e2 : decide ((m.length : Int) ≤ (x : Int) - K) = true := by rw [decide_eq_true_eq]; omega
                  have hend : Diff.Ended l m K x := ⟨by omega, by omega⟩
                  go_wp2_with fail
                  go_quiet (fail)
                  have hfar := HSL.out.far hstuck
                  have HF := Lib.hid hfar; clear hfar hstuck
                  have hmax : n2 < maxLen := by show n2 < 9223372036854775807; omega
                  go_wp2_with (at_mapUpdate; refine wpList_storeI _ rfl _ _ _ 131 rfl 3 3 Try.underlying131 Try.underlying3 Try.underlying3 B n2 F2 rfl ((HM2.out.drewN _).drewN _) hmax K (x : Int) rfl rfl (i64_wf _ (by omega) (by omega)) (i64_wf _ (by omega) (by omega)) ?_; intro w4 hm4 hg4)
                  have hl4 := HIN.out.least HF.out hend
                  go_ret2
                  refine ⟨⟨d, rfl, hl4⟩, ?_⟩
                  rw [HB0.out]
                  exact (bdrewN (bdrewN hb2 _) _).grown hg4 hBw (fun k e => by cases e; omega)
    · have k1 : decide (K ≤ (d : Int)) = false := by rw [decide_eq_false_iff_not]; exact hKd
      have hov := HIN.out.over (by omega)
      have hdl2 := hov.le
      go_wp2_with fail
      go_roundw
      case rel => exact ⟨d + 1, n2, F2, by go_num, by omega, HM2, Lib.hid hov, hb2⟩
      case measure => simp [intOf]; omega
end Go.Proofs.Ytmmkbjinkdgdbaa
