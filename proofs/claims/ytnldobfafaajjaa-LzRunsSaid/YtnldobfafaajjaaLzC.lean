/- Contract of package lz: longest: the walk. -/
import Derived.Test.YtnldobfafaajjaaLzB
namespace Go.Proofs.Ytnldobfafaajjaa
open Go.RowKit Go.Maps
set_option linter.unusedVariables false
set_option linter.unusedSimpArgs false
theorem bstr_extract (l : List UInt8) (i j : Nat) : (bstr l).extract i j = bstr ((l.drop i).take (j - i)) := by
  apply ByteArray.ext
  apply Array.ext'
  rw [ByteArray.data_extract, Array.toList_extract]
  rfl
theorem bstr_at (l : List UInt8) (i : Nat) (h : i < (bstr l).size) : (bstr l)[i]'h = l.getD i 0 := by
  have h' : i < l.length := by rw [bstr_size] at h; exact h
  rw [List.getD_eq_getElem?_getD, List.getElem?_eq_getElem h']
  rfl
def LongOut (l : List UInt8) (a : Nat) (w : World) (e : Ending) (w' : World) : Prop := ∃ back n : Nat, e = .returned (.tuple #[.int .i64 (back : Int), .int .i64 (n : Int)]) ∧ Lz.Best l a back n ∧ ∃ k, w' = w.drewN k
set_option maxRecDepth 100000 in
set_option maxHeartbeats 2000000 in
theorem longest_any (l : List UInt8) (a B b n : Nat) (No : Nat → Prop) (w : World) (h : Heads w B b n No l a) (hn : n < maxLen) (ha : a ≤ l.length) (hl : l.length ≤ 100000) :
    Calls Try.prog 29 #[.string (bstr l), .int .i64 (a : Int), .map (some b)] w (LongOut l a w) := by
  by_cases h3 : l.length < a + 3
  · have h3d : decide ((l.length : Int) < (a : Int) + 3) = true := by rw [decide_eq_true_eq]; omega
    go_enter Try.func29, Try.ntmps29
    go_wp2_with fail
    go_ret2
    exact ⟨0, 0, rfl, Lz.Best.none l a h3, 0, rfl⟩
  · have h3d : decide ((l.length : Int) < (a : Int) + 3) = false := by rw [decide_eq_false_iff_not]; omega
    obtain ⟨va, vc, hlook, hown⟩ := h.look hn (Lz.key3 l a) (Lz.key3_len l a (by omega))
    have hx : (bstr l).extract a (a + 3) = bstr (Lz.key3 l a) := by rw [bstr_extract, Nat.add_sub_cancel_left]; rfl
    rw [← hx] at hlook
    have hJ := Lz.places_get l a
    have hdone := fun k back n => Lz.Seek.done (l := l) (a := a) (k := k) (back := back) (n := n) (by omega)
    have hJl := Lz.places_len l a (Lz.key3 l a)
    generalize Lz.places l a (Lz.key3 l a) = J at *
    have HJ := Lib.hid (fun i => hJ i (by omega)); clear hJ
    have HD := Lib.hid hdone; clear hdone
    have HO := Lib.hid hown; clear hown
    have hal : (a : Int) + 3 ≤ (l.length : Int) := by omega
    have ha3 : a + 3 ≤ l.length := by omega
    have HX := Lib.hid hx; clear hx
    clear h h3
    go_enter Try.func29, Try.ntmps29
    go_wp2_with fail
    clear hlook
    go_loopw [6, 7, 9] (fun v6 v7 v9 wr => ∃ (kk back nn nq : Nat) (K : Int), kk ≤ J.length ∧ K + 1 ≤ (kk : Int) ∧ (kk : Int) ≤ K + 1 ∧ v6 = .int .i64 (back : Int) ∧ v7 = .int .i64 (nn : Int) ∧ v9 = .int .i64 K ∧ Hid (Lz.Seek l a J kk back nn) ∧ wr = w.drewN nq) (fun _ _ v9 _ => (intOf v9 + 1).toNat)
    case atStart => exact ⟨J.length, 0, 0, 0, (J.length : Int) - 1, Nat.le_refl _, by omega, by omega, rfl, rfl, rfl, Lib.hid (Lz.Seek.start l a J), rfl⟩
    case round =>
      obtain ⟨kk, back, nn, nq, K, hkk, hK1, hK2, rfl, rfl, rfl, HS, rfl⟩ := hrel
      have hnn : nn ≤ 130 := by rcases HS.out.is with h | h <;> omega
      cases kk with
      | zero =>
        obtain rfl : K = -1 := by omega
        go_wp2_with fail
        go_ret2
        exact ⟨back, nn, rfl, HD.out _ _ _ HS.out (.inl rfl), nq, rfl⟩
      | succ q =>
      obtain rfl : K = (q : Int) := by omega
      have hkq : q < J.length := by omega
      have hj := HJ.out q hkq
      obtain ⟨g, rfl⟩ : ∃ g, va = some ⟨g, 0, none⟩ := by
        cases hva : va with
        | none => rw [hva] at HO; have := HO.out.of_none; omega
        | some y => rw [hva] at HO; exact ⟨y.block, by rw [← HO.out.row.1]⟩
      have hcl := HO.out.row.2.2.2.2.num0 q hkq
      generalize hjq : J.getD q 0 = j at *
      have HJQ := Lib.hid hjq; clear hjq
      obtain ⟨hj1, hj2⟩ := hj
      have hq0 : (0 : Int) ≤ (q : Int) := by omega
      have hqJ : (q : Int) < (J.length : Int) := by omega
      have hqn : (q : Int).toNat = q := by omega
      by_cases hw : a - j ≤ 1023
      · have hwi : decide ((a : Int) - (j : Int) ≤ 1023) = true := by rw [decide_eq_true_eq]; omega
        go_wp2_with fail
        obtain ⟨wo, hwo⟩ : ∃ wo : World, wo = w.drewN nq := ⟨_, rfl⟩
        go_loopw [10] (fun v10 wr => ∃ m nq2 : Nat, 3 ≤ m ∧ m ≤ 130 ∧ v10 = .int .i64 (m : Int) ∧ Hid (Lz.Same l j a m) ∧ wr = w.drewN nq2) (fun v10 _ => 130 - (intOf v10).toNat)
        case atStart => exact ⟨3, nq, by omega, by omega, rfl, Lib.hid hj2, rfl⟩
        case round =>
          obtain ⟨m, nq2, hm3, hm130, rfl, HSM, rfl⟩ := hrel
          clear hwo
          have hsl := HSM.out.1
          have t1 : IntKind.i64.wrap ((a : Int) + (m : Int)) = (a : Int) + (m : Int) := IntWalk.i64_in _ ⟨by omega, by omega⟩
          have t2 : IntKind.i64.wrap ((j : Int) + (m : Int)) = (j : Int) + (m : Int) := IntWalk.i64_in _ ⟨by omega, by omega⟩
          have t3 : ((a : Int) + (m : Int)).toNat = a + m := by omega
          have t4 : ((j : Int) + (m : Int)).toNat = j + m := by omega
          have t5 : (0 : Int) ≤ (a : Int) + (m : Int) := by omega
          have t6 : (0 : Int) ≤ (j : Int) + (m : Int) := by omega
          by_cases hc1 : m < 130
          · have d1 : decide ((m : Int) < 130) = true := by rw [decide_eq_true_eq]; omega
            by_cases hc2 : a + m < l.length
            · have d2 : decide ((a : Int) + (m : Int) < (l.length : Int)) = true := by rw [decide_eq_true_eq]; omega
              have t7 : (a : Int) + (m : Int) < (l.length : Int) := by omega
              have t8 : (j : Int) + (m : Int) < (l.length : Int) := by omega
              have b1 : ∀ h : j + m < (bstr l).size, ((bstr l)[j + m]'h).toNat = (l.getD (j + m) 0).toNat := fun h => by rw [bstr_at]
              have b2 : ∀ h : a + m < (bstr l).size, ((bstr l)[a + m]'h).toNat = (l.getD (a + m) 0).toNat := fun h => by rw [bstr_at]
              by_cases hc3 : l.getD (j + m) 0 = l.getD (a + m) 0
              · rw [hc3] at b1
                have HC3 := Lib.hid hc3; clear hc3
                generalize (l.getD (a + m) 0).toNat = x at *
                have d3 : ((x : Int) == (x : Int)) = true := by simp
                go_wp2_with fail
                go_quiet (fail)
                clear t1 t2 t3 t4 t5 t6 t7 t8
                go_wp2_with fail
                go_roundw
                case rel => exact ⟨m + 1, nq2 + nq, by omega, by omega, by go_num, Lib.hid (HSM.out.step hc2 HC3.out), rfl⟩
                case measure => simp [intOf]; omega
              · have hne : ((l.getD (j + m) 0).toNat : Int) ≠ ((l.getD (a + m) 0).toNat : Int) := fun h => hc3 (UInt8.toNat_inj.mp (by omega))
                have HC3 := Lib.hid hc3; clear hc3
                have d3 : (((l.getD (j + m) 0).toNat : Int) == ((l.getD (a + m) 0).toNat : Int)) = false := by rw [beq_eq_false_iff_ne]; exact hne
                clear hne
                have HC3' : Hid (l.getD (j + m) 0 ≠ l.getD (a + m) 0) := HC3
                generalize hxa : (l.getD (a + m) 0).toNat = xa at *
                generalize hxj : (l.getD (j + m) 0).toNat = xj at *
                clear hxa hxj
                have hrun : Lz.Run l j a m := ⟨hm3, hm130, HSM.out, .inr (.inr HC3.out)⟩
                have hnext := HS.out.next hkq m (by rw [HJQ.out]; exact hj1) (by rw [HJQ.out]; exact hw) (by rw [HJQ.out]; exact hrun)
                rw [HJQ.out] at hnext
                have HN := Lib.hid hnext; clear hnext hrun
                have haj : (a : Int) - (j : Int) = ((a - j : Nat) : Int) := by omega
                by_cases hlt : nn < m
                · have d9 : decide ((nn : Int) < (m : Int)) = true := by rw [decide_eq_true_eq]; omega
                  rw [if_pos hlt, if_pos hlt] at HN
                  go_wp2_with fail
                  go_quiet (fail)
                  clear t1 t2 t3 t4 t5 t6
                  go_wp2_with fail
                  go_roundw
                  case rel => exact ⟨q, a - j, m, _, (q : Int) - 1, by omega, by omega, by omega, rfl, rfl, rfl, HN, rfl⟩
                  case measure => (simp [intOf]; try omega)
                · have d9 : decide ((nn : Int) < (m : Int)) = false := by rw [decide_eq_false_iff_not]; omega
                  rw [if_neg hlt, if_neg hlt] at HN
                  go_wp2_with fail
                  go_quiet (fail)
                  clear t1 t2 t3 t4 t5 t6
                  go_wp2_with fail
                  go_roundw
                  case rel => exact ⟨q, back, nn, _, (q : Int) - 1, by omega, by omega, by omega, rfl, rfl, rfl, HN, rfl⟩
                  case measure => (simp [intOf]; try omega)
            · have d2 : decide ((a : Int) + (m : Int) < (l.length : Int)) = false := by rw [decide_eq_false_iff_not]; omega
              have hrun : Lz.Run l j a m := ⟨hm3, hm130, HSM.out, .inr (.inl (by omega))⟩
              have hnext := HS.out.next hkq m (by rw [HJQ.out]; exact hj1) (by rw [HJQ.out]; exact hw) (by rw [HJQ.out]; exact hrun)
              rw [HJQ.out] at hnext
              have HN := Lib.hid hnext; clear hnext hrun
              have haj : (a : Int) - (j : Int) = ((a - j : Nat) : Int) := by omega
              by_cases hlt : nn < m
              · have d9 : decide ((nn : Int) < (m : Int)) = true := by rw [decide_eq_true_eq]; omega
                rw [if_pos hlt, if_pos hlt] at HN
                go_wp2_with fail
                go_quiet (fail)
                clear t1 t2 t3 t4 t5 t6
                go_wp2_with fail
                go_roundw
                case rel => exact ⟨q, a - j, m, _, (q : Int) - 1, by omega, by omega, by omega, rfl, rfl, rfl, HN, rfl⟩
                case measure => (simp [intOf]; try omega)
              · have d9 : decide ((nn : Int) < (m : Int)) = false := by rw [decide_eq_false_iff_not]; omega
                rw [if_neg hlt, if_neg hlt] at HN
                go_wp2_with fail
                go_quiet (fail)
                clear t1 t2 t3 t4 t5 t6
                go_wp2_with fail
                go_roundw
                case rel => exact ⟨q, back, nn, _, (q : Int) - 1, by omega, by omega, by omega, rfl, rfl, rfl, HN, rfl⟩
                case measure => (simp [intOf]; try omega)
          · have d1 : decide ((m : Int) < 130) = false := by rw [decide_eq_false_iff_not]; omega
            have hrun : Lz.Run l j a m := ⟨hm3, hm130, HSM.out, .inl (by omega)⟩
            have hnext := HS.out.next hkq m (by rw [HJQ.out]; exact hj1) (by rw [HJQ.out]; exact hw) (by rw [HJQ.out]; exact hrun)
            rw [HJQ.out] at hnext
            have HN := Lib.hid hnext; clear hnext hrun
            have haj : (a : Int) - (j : Int) = ((a - j : Nat) : Int) := by omega
            by_cases hlt : nn < m
            · have d9 : decide ((nn : Int) < (m : Int)) = true := by rw [decide_eq_true_eq]; omega
              rw [if_pos hlt, if_pos hlt] at HN
              go_wp2_with fail
              go_quiet (fail)
              clear t1 t2 t3 t4 t5 t6
              go_wp2_with fail
              go_roundw
              case rel => exact ⟨q, a - j, m, _, (q : Int) - 1, by omega, by omega, by omega, rfl, rfl, rfl, HN, rfl⟩
              case measure => (simp [intOf]; try omega)
            · have d9 : decide ((nn : Int) < (m : Int)) = false := by rw [decide_eq_false_iff_not]; omega
              rw [if_neg hlt, if_neg hlt] at HN
              go_wp2_with fail
              go_quiet (fail)
              clear t1 t2 t3 t4 t5 t6
              go_wp2_with fail
              go_roundw
              case rel => exact ⟨q, back, nn, _, (q : Int) - 1, by omega, by omega, by omega, rfl, rfl, rfl, HN, rfl⟩
              case measure => (simp [intOf]; try omega)
      · have hwi : decide ((a : Int) - (j : Int) ≤ 1023) = false := by rw [decide_eq_false_iff_not]; omega
        go_wp2_with fail
        go_ret2
        exact ⟨back, nn, rfl, HD.out _ _ _ HS.out (.inr ⟨by omega, by rw [Nat.add_sub_cancel, HJQ.out]; omega⟩), nq, rfl⟩
end Go.Proofs.Ytnldobfafaajjaa
