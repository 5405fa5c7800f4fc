/- The law UndoRounds. -/
import Derived.Test.YtlpockgofejogaaUndoB
import Derived.Deep.RegionWith
namespace Go.Proofs.Ytlpockgofejogaa
open Go.RowKit
set_option linter.unusedVariables false
set_option linter.unusedSimpArgs false
theorem Two.owns {p g : Nat} {w w' : World} (h : Two p g w w') {B : Nat} {e : TypeId} {size : Nat} {a : Option Addr} {n cap : Nat} {xs : List Value} (ho : Owns w B e size a n cap xs) (hp : p < B) (hg : g < B) : Owns w' B e size a n cap xs :=
  ho.keep fun x hx => by
    subst hx
    have := ho.lt
    exact h.block _ this.2 (by omega) (by omega)
set_option maxRecDepth 100000 in
theorem UndoRounds_long (a : Option Addr) (len cap : Nat) (at_ n : Int) (w : World) (h : 100 < len) :
    Calls Try.prog 11 #[.slice a len cap, .int .i64 at_, .int .i64 n] w fun e w' => e = .returned (.bool true) ∧ Below w.heap.size w w' := by
  have hd : decide ((100 : Int) < (len : Int)) = true := by rw [decide_eq_true_eq]; omega
  go_enter Try.func11, Try.ntmps11
  go_wp2_with fail
  refine (undone_any _).mono ?_
  rintro e w1 ⟨rfl, hb1⟩
  go_wp2_with fail
  go_ret
  exact ⟨rfl, hb1⟩
set_option maxRecDepth 100000 in
set_option maxHeartbeats 4000000 in
theorem UndoRounds_walk (w : World) (a : Option Addr) (len cap : Nat) (zs : List Int) (at_ n : Int) (hz : IsInts .i64 w a len cap zs) (h1 : -9223372036854775808 ≤ at_) (h2 : at_ ≤ 9223372036854775807) (h3 : -9223372036854775808 ≤ n) (h4 : n ≤ 9223372036854775807) :
    Calls Try.prog 11 #[.slice a len cap, .int .i64 at_, .int .i64 n] w fun e w' => e = .returned (.bool true) ∧ Below w.heap.size w w' := by
  by_cases hlong : 100 < len
  · exact UndoRounds_long a len cap at_ n w hlong
  have hl100 : len ≤ 100 := by omega
  have hd : decide ((100 : Int) < (len : Int)) = false := by rw [decide_eq_false_iff_not]; omega
  have HZ := Lib.hid hz; clear hz hlong
  go_enter Try.func11, Try.ntmps11
  go_wp2_with fail
  refine (undone_any _).mono ?_
  rintro e w1 ⟨rfl, hb1⟩
  have hz1 := HZ.out.below hb1 (Nat.le_refl _)
  go_wp2_with fail
  refine (grown_any a len cap zs _ hz1 hl100).mono ?_
  rintro e w2 ⟨p, g, cp, E, now, rfl, hT, hG, hb2⟩
  have hB2 := hb1.trans (hb2.mono hb1.size)
  have hs1 := hb1.size
  clear hz1 hb1 hb2
  obtain ⟨N, hN⟩ : ∃ N, N = E.length := ⟨_, rfl⟩
  have hNl : N = len + 1 := by rw [hN]; exact hG.1
  have hlen := Len_I _ _ _ _ _ _ _ hT
  rw [← hN] at hlen
  have hpk := pickN_lt at_ N (by omega)
  have hpick := pick_at at_ (N : Nat) N w2 rfl (by omega) (by omega)
  generalize hm0 : pickN at_ N = n0 at *
  clear hm0
  have hgo := Go_I _ _ _ _ _ n0 _ _ hT (by omega)
  have hE1l : (Undo.go E n0).length = N := by rw [hN]; exact Undo.goF_length _ _ _
  have hE1u : Undo.up (Undo.go E n0) = Undo.up E := Undo.goF_up _ _ _
  have hE1w : Undo.wh (Undo.go E n0) n0 = .int .i64 (n0 : Nat) := by
    rw [show Undo.wh (Undo.go E n0) n0 = Undo.wh E n0 from Undo.goF_wh _ _ _ _]
    exact hG.2.1 n0 (by omega)
  have hUp : Undo.Up (Undo.up E) N := by rw [hN]; exact hT.up
  have hnx := Undo.go_next N n0 E hN hUp hpk
  rw [← hE1u] at hnx hUp
  have hpu := Undo.path_up _ N hUp n0 hpk
  have hpt := Undo.path_take _ N hUp n0 hpk
  have hplast := Undo.path_last _ N hUp n0 hpk
  have hppos := Undo.path_pos (Undo.up (Undo.go E n0)) n0
  have hple := Undo.path_len _ N hUp n0 hpk
  have HLEN := Lib.hid hlen; clear hlen
  have HPICK := Lib.hid hpick; clear hpick
  have HGO := Lib.hid hgo; clear hgo
  generalize Undo.go E n0 = F at *
  clear hG hE1u hT
  have HF := Lib.hid hE1l; clear hE1l
  have HW := Lib.hid hE1w; clear hE1w
  generalize hP : Undo.path (Undo.up F) n0 = P at *
  have HP := Lib.hid hP; clear hP
  have HNX := Lib.hid hnx; clear hnx
  have HPU := Lib.hid hpu; clear hpu
  have HPT := Lib.hid hpt; clear hpt
  have HPL := Lib.hid hplast; clear hplast
  have HN := Lib.hid hN; clear hN
  have hN101 : N ≤ 101 := by omega
  have HNL := Lib.hid hNl; clear hNl
  clear hUp
  go_wp2_with fail
  refine HLEN.out.mono ?_
  rintro e w3 ⟨rfl, rfl⟩
  go_wp2_with fail
  refine HPICK.out.mono ?_
  rintro e w3 ⟨rfl, rfl⟩
  go_wp2_with fail
  refine HGO.out.mono ?_
  rintro e w3 ⟨rfl, hT, hTw⟩
  have hB3 : Below w.heap.size w w3 := by
    have := hT.pB
    have := hT.glt.1
    exact hB2.trans (hTw.below (by omega) (by omega) hB2.size)
  clear hB2 hTw HGO HPICK HLEN
  go_wp2_with fail
  refine (Way_I _ _ _ _ _ _ _ hT).mono ?_
  rintro e w4 ⟨a0, c0, rfl, ho, hb4⟩
  rw [HP.out] at ho ⊢
  have hT4 := hT.below hb4 (Nat.le_refl _)
  have hB4 := hB3.trans (hb4.mono hB3.size)
  have hp3 := hT.lt
  have hg3 := hT.glt.2
  clear hT hB3 hb4
  have hpk2 := pickN_lt n P.length hppos
  have hpick2 := pick_at n (P.length : Nat) P.length w4 rfl hppos (by omega)
  generalize hm0 : pickN n P.length = m at *
  clear hm0
  have HPICK := Lib.hid hpick2; clear hpick2
  go_wp2_with fail
  refine HPICK.out.mono ?_
  rintro e w5 ⟨rfl, rfl⟩
  clear HPICK
  generalize hl : P.length = l at *
  have HL := Lib.hid hl; clear hl
  obtain ⟨B3, hB3e⟩ : ∃ B3, B3 = w3.heap.size := ⟨_, rfl⟩
  rw [← hB3e] at ho hp3 hg3
  clear hB3e
  go_wp2_with fail
  go_loopw [9] (fun i wr => ∃ k : Nat, k ≤ m ∧ i = .int .i64 k ∧ Hid (TreeAt 94 96 w1.heap.size wr p g cp F (P.getD (l - 1 - k) 0)) ∧ Hid (Owns wr B3 3 1 a0 l c0 (ivals (P.map fun (i : Nat) => (i : Int)))) ∧ Below w.heap.size w wr) (fun i _ => m - (intOf i).toNat)
  case atStart => exact ⟨0, by omega, rfl, by rw [Nat.sub_zero, HPL.out]; exact hT4, ho, hB4⟩
  case round =>
    clear hT4 ho hB4
    obtain ⟨k, hk, rfl, HT, HO, hb⟩ := hrel
    by_cases hlt : k < m
    · have hkI : (k : Int) < (m : Int) := by omega
      obtain ⟨q, hq⟩ : ∃ q, q = l - 1 - k := ⟨_, rfl⟩
      have hq1 : 1 ≤ q := by omega
      have hqn : l - 1 - (k + 1) + 1 = q := by omega
      have hup := HPU.out (l - 1 - (k + 1)) (by omega)
      have hdn := HNX.out (l - 1 - (k + 1)) (by omega)
      rw [hqn] at hup hdn
      have hpt := HPT.out (l - 1 - (k + 1)) (by omega)
      rw [hqn] at hpt
      have hTd := HT.out.drew
      rw [← hq] at hTd
      have hu := Undo_I _ _ _ _ _ (P.getD (l - 1 - (k + 1)) 0) _ _ hTd hup
      rw [← hdn, Undo.setDn_same] at hu
      have hpB := hTd.pB
      have hgB := hTd.glt.1
      clear hTd
      have HU := Lib.hid hu; clear hu hup hdn
      have hway := fun w' (h : TreeAt 94 96 w1.heap.size w' p g cp F (P.getD (l - 1 - (k + 1)) 0)) => Way_I _ _ _ _ _ _ w' h
      rw [hpt] at hway
      have htl : (P.take q).length = q := by rw [List.length_take, HL.out]; omega
      rw [htl] at hway
      have HWAY := Lib.hid hway; clear hway hpt
      have hrd : ∀ w', Owns w' B3 3 1 a0 l c0 (ivals (P.map fun (i : Nat) => (i : Int))) → ReadsI w' a0 ((P.take q).map fun (i : Nat) => (i : Int)) := fun w' h => by
        have := h.readsI.take q
        rwa [← List.map_take] at this
      have HRD := Lib.hid hrd; clear hrd
      have HOD := Lib.hid HO.out.drew
      have hex : ∃ g0, a0 = some ⟨g0, 0, none⟩ := by
        cases a0 with
        | none => have := HO.out.of_none.1; omega
        | some x => exact ⟨x.block, by rw [← HO.out.row.1]⟩
      have hlc : l ≤ c0 := by
        obtain ⟨g0, rfl⟩ := hex
        exact HO.out.row.2.2.1
      obtain ⟨g0, rfl⟩ := hex
      have hqlI : (q : Int) ≤ (l : Int) := by omega
      have hqcI : (q : Int) ≤ (c0 : Int) := by omega
      have hw1 : IntKind.i64.wrap ((l : Int) - 1) = (l : Int) - 1 := IntWalk.i64_in _ ⟨by omega, by omega⟩
      have hw2 : IntKind.i64.wrap ((l : Int) - 1 - (k : Int)) = (q : Int) := by rw [IntWalk.i64_in _ ⟨by omega, by omega⟩]; omega
      have HQ := Lib.hid hq; clear hq
      clear hqn
      go_wp2_with fail
      refine wp_region_any (by kernel_rfl) ?_
      try (change wpAny _ _ _ _ _ _ _ (World.drew _))
      refine wpAny_take (i := 0) (v := ?_) rfl (by kernel_rfl) (by kernel_rfl) (by kernel_rfl) (fun _ _ _ h => h) (Or.inl ⟨by kernel_rfl, ?_⟩) ?_
      rotate_left
      · (intro w; go_simp) <;> with_reducible rfl
      try dsimp only [Act.put]
      try simp only [Act.put, List.setIfInBounds_toArray, List.set_cons_zero, List.set_cons_succ]
      refine wpAny_ready (rs := [1]) (by kernel_rfl) (by simp) ?_
      refine AllReady.cons rfl (fun K hK => ?_) AllReady.nil
      go_simp
      go_wp2_with (go_at_call 44; refine HU.out.mono ?_; rintro e wa ⟨rfl, ha, hta⟩)
      refine wpAny_take (i := 2) (v := ?_) rfl (by kernel_rfl) (by kernel_rfl) (by kernel_rfl) (fun _ _ _ h => h) (Or.inl ⟨by kernel_rfl, ?_⟩) ?_
      rotate_left
      · (intro w; go_simp) <;> with_reducible rfl
      try dsimp only [Act.put]
      try simp only [Act.put, List.setIfInBounds_toArray, List.set_cons_zero, List.set_cons_succ]
      refine wpAny_take (i := 3) (v := ?_) rfl (by kernel_rfl) (by kernel_rfl) (by kernel_rfl) (fun _ _ _ h => h) (Or.inl ⟨by kernel_rfl, ?_⟩) ?_
      rotate_left
      · (intro w; go_simp) <;> with_reducible rfl
      try dsimp only [Act.put]
      try simp only [Act.put, List.setIfInBounds_toArray, List.set_cons_zero, List.set_cons_succ]
      refine wpAny_take (i := 4) (v := ?_) rfl (by kernel_rfl) (by kernel_rfl) (by kernel_rfl) (fun _ _ _ h => h) (Or.inl ⟨by kernel_rfl, ?_⟩) ?_
      rotate_left
      · (intro w; go_simp) <;> with_reducible rfl
      try dsimp only [Act.put]
      try simp only [Act.put, List.setIfInBounds_toArray, List.set_cons_zero, List.set_cons_succ]
      refine wpAny_take (i := 6) (v := ?_) rfl (by kernel_rfl) (by kernel_rfl) (by kernel_rfl) (fun _ _ _ h => h) (Or.inl ⟨by kernel_rfl, ?_⟩) ?_
      rotate_left
      · (intro w; go_simp) <;> with_reducible rfl
      try dsimp only [Act.put]
      try simp only [Act.put, List.setIfInBounds_toArray, List.set_cons_zero, List.set_cons_succ]
      refine wpAny_take (i := 7) (v := ?_) rfl (by kernel_rfl) (by kernel_rfl) (by kernel_rfl) (fun _ _ _ h => h) (Or.inl ⟨by kernel_rfl, ?_⟩) ?_
      rotate_left
      · (intro w; go_simp) <;> with_reducible rfl
      try dsimp only [Act.put]
      try simp only [Act.put, List.setIfInBounds_toArray, List.set_cons_zero, List.set_cons_succ]
      refine wpAny_take (i := 8) (v := ?_) rfl (by kernel_rfl) (by kernel_rfl) (by kernel_rfl) (fun _ _ _ h => h) (Or.inl ⟨by kernel_rfl, ?_⟩) ?_
      rotate_left
      · (intro w; go_simp) <;> with_reducible rfl
      try dsimp only [Act.put]
      try simp only [Act.put, List.setIfInBounds_toArray, List.set_cons_zero, List.set_cons_succ]
      refine wpAny_take (i := 9) (v := ?_) rfl (by kernel_rfl) (by kernel_rfl) (by kernel_rfl) (fun _ _ _ h => h) (Or.inl ⟨by kernel_rfl, ?_⟩) ?_
      rotate_left
      · (intro w; go_simp) <;> with_reducible rfl
      try dsimp only [Act.put]
      try simp only [Act.put, List.setIfInBounds_toArray, List.set_cons_zero, List.set_cons_succ]
      refine wpAny_take (i := 10) (v := ?_) rfl (by kernel_rfl) (by kernel_rfl) (by kernel_rfl) (fun _ _ _ h => h) (Or.inl ⟨by kernel_rfl, ?_⟩) ?_
      rotate_left
      · (intro w; go_simp) <;> with_reducible rfl
      try dsimp only [Act.put]
      try simp only [Act.put, List.setIfInBounds_toArray, List.set_cons_zero, List.set_cons_succ]
      refine wpAny_take (i := 11) (v := ?_) rfl (by kernel_rfl) (by kernel_rfl) (by kernel_rfl) (fun _ _ _ h => h) (Or.inl ⟨by kernel_rfl, ?_⟩) ?_
      rotate_left
      · (intro w; go_simp) <;> with_reducible rfl
      try dsimp only [Act.put]
      try simp only [Act.put, List.setIfInBounds_toArray, List.set_cons_zero, List.set_cons_succ]
      refine wpAny_take (i := 12) (v := ?_) rfl (by kernel_rfl) (by kernel_rfl) (by kernel_rfl) (fun _ _ _ h => h) (Or.inl ⟨by kernel_rfl, ?_⟩) ?_
      rotate_left
      · (intro w; go_simp) <;> with_reducible rfl
      try dsimp only [Act.put]
      try simp only [Act.put, List.setIfInBounds_toArray, List.set_cons_zero, List.set_cons_succ]
      refine wpAny_ready (rs := [5]) (by kernel_rfl) (by simp) ?_
      refine AllReady.cons rfl (fun K hK => ?_) AllReady.nil
      go_simp
      go_wp2_with (go_at_call 43; refine (HWAY.out _ ha).mono ?_; rintro e wb ⟨aW, cW, rfl, hoW, hbW⟩)
      refine wpAny_ready (rs := [13]) (by kernel_rfl) (by simp) ?_
      refine AllReady.cons rfl (fun K hK => ?_) AllReady.nil
      go_simp
      go_wp2_with (go_at_call 45; refine (Equal_yes _ _ _ _ _ _ ((P.take q).map fun (i : Nat) => (i : Int)) _ (by rw [List.length_map, List.length_take, HL.out]; omega) rfl (by omega) hoW.readsI (HRD.out _ ((hta.owns HOD.out hp3 hg3).below hbW (Nat.le_refl _)))).mono ?_; rintro e wc ⟨rfl, kk, rfl⟩)
      refine wpAny_take (i := 14) (v := ?_) rfl (by kernel_rfl) (by kernel_rfl) (by kernel_rfl) (fun _ _ _ h => h) (Or.inl ⟨by kernel_rfl, ?_⟩) ?_
      rotate_left
      · (intro w; go_simp) <;> with_reducible rfl
      try dsimp only [Act.put]
      try simp only [Act.put, List.setIfInBounds_toArray, List.set_cons_zero, List.set_cons_succ]
      refine wpAny_take (i := 15) (v := ?_) rfl (by kernel_rfl) (by kernel_rfl) (by kernel_rfl) (fun _ _ _ h => h) (Or.inl ⟨by kernel_rfl, ?_⟩) ?_
      rotate_left
      · (intro w; go_simp) <;> with_reducible rfl
      try dsimp only [Act.put]
      try simp only [Act.put, List.setIfInBounds_toArray, List.set_cons_zero, List.set_cons_succ]
      refine wpAny_done (by kernel_rfl) ?_ _
      go_wp2_with fail
      go_roundw
      case rel =>
        have hbb := hta.below (B := w.heap.size) (by omega) (by omega) hb.size
        refine ⟨k + 1, by omega, by go_num, (ha.below hbW (Nat.le_refl _)).drewN kk, ((hta.owns HOD.out hp3 hg3).below hbW (Nat.le_refl _)).drewN kk, bdrewN ((hb.drew.trans hbb).trans (hbW.mono ?_)) _⟩
        have := hb.size
        have := hta.size
        simp at this
        omega
      case measure => simp [intOf]; omega
    · obtain rfl : k = m := by omega
      have hdd : decide ((k : Int) < (k : Int)) = false := by simp
      go_wp2_with fail
      go_loopw [10] (fun i wr => ∃ j : Nat, j ≤ k ∧ i = .int .i64 j ∧ Hid (TreeAt 94 96 w1.heap.size wr p g cp F (P.getD (l - 1 - k + j) 0)) ∧ Hid (Owns wr B3 3 1 a0 l c0 (ivals (P.map fun (i : Nat) => (i : Int)))) ∧ Below w.heap.size w wr) (fun i _ => k - (intOf i).toNat)
      case atStart => exact ⟨0, by omega, rfl, HT, HO, hb⟩
      case round =>
        clear HT HO hb
        obtain ⟨j, hj, rfl, HT, HO, hb⟩ := hrel
        by_cases hlt2 : j < k
        · have hjI : (j : Int) < (k : Int) := by omega
          have hdn := HNX.out (l - 1 - k + j) (by omega)
          have hr := Redo_I _ _ _ _ _ _ _ _ HT.out hdn
          have hpB := HT.out.pB
          have hgB := HT.out.glt.1
          have HR := Lib.hid hr; clear hr hdn
          go_wp2_with fail
          refine HR.out.mono ?_
          rintro e wa ⟨rfl, ha, hta⟩
          go_wp2_with fail
          go_roundw
          case rel => exact ⟨j + 1, by omega, by go_num, ha, hta.owns HO.out hp3 hg3, hb.trans (hta.below (by omega) (by omega) hb.size)⟩
          case measure => simp [intOf]; omega
        · obtain rfl : j = k := by omega
          have hdd2 : decide ((j : Int) < (j : Int)) = false := by simp
          have hlast : P.getD (l - 1 - j + j) 0 = n0 := by rw [show l - 1 - j + j = l - 1 from by omega]; exact HPL.out
          have hT := HT.out
          rw [hlast] at hT
          clear HT
          have HT := Lib.hid hT; clear hT hlast
          have hway := fun w' (h : TreeAt 94 96 w1.heap.size w' p g cp F n0) => Way_I _ _ _ _ _ _ w' h
          rw [HP.out, HL.out] at hway
          have HWAY := Lib.hid hway; clear hway
          have hnow := fun w' (h : TreeAt 94 96 w1.heap.size w' p g cp F n0) => Now_I _ _ _ _ _ _ w' h
          rw [HW.out] at hnow
          have HNOW := Lib.hid hnow; clear hnow
          have hex : ∃ g0, a0 = some ⟨g0, 0, none⟩ := by
            cases a0 with
            | none => have := HO.out.of_none.1; omega
            | some x => exact ⟨x.block, by rw [← HO.out.row.1]⟩
          obtain ⟨g0, rfl⟩ := hex
          obtain ⟨l1, hl1⟩ : ∃ l1, l1 = l - 1 := ⟨_, rfl⟩
          have hw1 : IntKind.i64.wrap ((l : Int) - 1) = (l1 : Int) := by rw [IntWalk.i64_in _ ⟨by omega, by omega⟩]; omega
          have hl1l : (l1 : Int) < (l : Int) := by omega
          have hl10 : (0 : Int) ≤ (l1 : Int) := by omega
          have hcl := HO.out.int l1 (by rw [List.length_map, HL.out]; omega)
          have hgl1 : (P.map fun (i : Nat) => (i : Int)).getD l1 0 = (n0 : Int) := by
            have := HPL.out
            rw [← hl1] at this
            rw [← this]
            simp [List.getD_eq_getElem?_getD, List.getElem?_eq_getElem (show l1 < P.length by rw [HL.out]; omega)]
          rw [hgl1] at hcl
          have hpl : (P.map fun (i : Nat) => (i : Int)).length = l := by rw [List.length_map, HL.out]
          have hnn : ((n0 : Int) == (n0 : Int)) = true := by simp
          have HPLn := Lib.hid hpl
          have hg0lt := HO.out.lt.2
          have hg0lt : g0 < wr.heap.size := hg0lt
          clear hgl1 hl1 hpl
          go_wp2_with fail
          refine wp_region_any (by kernel_rfl) ?_
          try (change wpAny _ _ _ _ _ _ _ (World.drew _))
          refine wpAny_take (i := 0) (v := ?_) rfl (by kernel_rfl) (by kernel_rfl) (by kernel_rfl) (fun _ _ _ h => h) (Or.inl ⟨by kernel_rfl, ?_⟩) ?_
          rotate_left
          · (intro w; go_simp) <;> with_reducible rfl
          try dsimp only [Act.put]
          try simp only [Act.put, List.setIfInBounds_toArray, List.set_cons_zero, List.set_cons_succ]
          refine wpAny_take (i := 2) (v := ?_) rfl (by kernel_rfl) (by kernel_rfl) (by kernel_rfl) (fun _ _ _ h => h) (Or.inl ⟨by kernel_rfl, ?_⟩) ?_
          rotate_left
          · (intro w; go_simp) <;> with_reducible rfl
          try dsimp only [Act.put]
          try simp only [Act.put, List.setIfInBounds_toArray, List.set_cons_zero, List.set_cons_succ]
          refine wpAny_ready (rs := [1]) (by kernel_rfl) (by simp) ?_
          refine AllReady.cons rfl (fun K hK => ?_) AllReady.nil
          go_simp
          go_wp2_with (go_at_call 43; refine (HWAY.out _ HT.out.drew).mono ?_; rintro e wb ⟨aW, cW, rfl, hoW, hbW⟩)
          have tt := HT.out.drew.below hbW (Nat.le_refl _)
          have hcl2 : wb.cell? ⟨g0, l1, none⟩ = some (.int .i64 (n0 : Nat)) := by
            rw [hbW.cell (p := ⟨g0, l1, none⟩) (show g0 < wr.drew.heap.size from hg0lt)]; exact hcl
          refine wpAny_ready (rs := [3]) (by kernel_rfl) (by simp) ?_
          refine AllReady.cons rfl (fun K hK => ?_) AllReady.nil
          go_simp
          go_wp2_with (go_at_call 45; refine (Equal_yes _ _ _ _ _ _ (P.map fun (i : Nat) => (i : Int)) _ HPLn.out rfl (by omega) hoW.readsI (HO.out.drew.below hbW (Nat.le_refl _)).readsI).mono ?_; rintro e wc ⟨rfl, kk, rfl⟩)
          refine wpAny_take (i := 4) (v := ?_) rfl (by kernel_rfl) (by kernel_rfl) (by kernel_rfl) (fun _ _ _ h => h) (Or.inl ⟨by kernel_rfl, ?_⟩) ?_
          rotate_left
          · (intro w; go_simp) <;> with_reducible rfl
          try dsimp only [Act.put]
          try simp only [Act.put, List.setIfInBounds_toArray, List.set_cons_zero, List.set_cons_succ]
          refine wpAny_take (i := 5) (v := ?_) rfl (by kernel_rfl) (by kernel_rfl) (by kernel_rfl) (fun _ _ _ h => h) (Or.inl ⟨by kernel_rfl, ?_⟩) ?_
          rotate_left
          · (intro w; go_simp) <;> with_reducible rfl
          try dsimp only [Act.put]
          try simp only [Act.put, List.setIfInBounds_toArray, List.set_cons_zero, List.set_cons_succ]
          refine wpAny_take (i := 7) (v := ?_) rfl (by kernel_rfl) (by kernel_rfl) (by kernel_rfl) (fun _ _ _ h => h) (Or.inl ⟨by kernel_rfl, ?_⟩) ?_
          rotate_left
          · (intro w; go_simp) <;> with_reducible rfl
          try dsimp only [Act.put]
          try simp only [Act.put, List.setIfInBounds_toArray, List.set_cons_zero, List.set_cons_succ]
          refine wpAny_take (i := 8) (v := ?_) rfl (by kernel_rfl) (by kernel_rfl) (by kernel_rfl) (fun _ _ _ h => h) (Or.inl ⟨by kernel_rfl, ?_⟩) ?_
          rotate_left
          · (intro w; go_simp) <;> with_reducible rfl
          try dsimp only [Act.put]
          try simp only [Act.put, List.setIfInBounds_toArray, List.set_cons_zero, List.set_cons_succ]
          refine wpAny_take (i := 9) (v := ?_) rfl (by kernel_rfl) (by kernel_rfl) (by kernel_rfl) (fun _ _ _ h => h) (Or.inl ⟨by kernel_rfl, ?_⟩) ?_
          rotate_left
          · (intro w; go_simp) <;> with_reducible rfl
          try dsimp only [Act.put]
          try simp only [Act.put, List.setIfInBounds_toArray, List.set_cons_zero, List.set_cons_succ]
          refine wpAny_take (i := 10) (v := ?_) rfl (by kernel_rfl) (by kernel_rfl) (by kernel_rfl) (fun _ _ _ h => h) (Or.inl ⟨by kernel_rfl, ?_⟩) ?_
          rotate_left
          · (intro w; go_simp) <;> with_reducible rfl
          try dsimp only [Act.put]
          try simp only [Act.put, List.setIfInBounds_toArray, List.set_cons_zero, List.set_cons_succ]
          refine wpAny_take (i := 11) (v := ?_) rfl (by kernel_rfl) (by kernel_rfl) (by kernel_rfl) (fun _ _ _ h => h) (Or.inl ⟨by kernel_rfl, ?_⟩) ?_
          rotate_left
          · (intro w; go_simp) <;> with_reducible rfl
          try dsimp only [Act.put]
          try simp only [Act.put, List.setIfInBounds_toArray, List.set_cons_zero, List.set_cons_succ]
          refine wpAny_ready (rs := [6, 12]) (by kernel_rfl) (by simp) ?_
          refine AllReady.cons rfl (fun K hK => ?_) (AllReady.cons rfl (fun K hK => ?_) AllReady.nil)
          · go_simp
            go_wp2_with (go_at_call 47; refine (HNOW.out _ (tt.drewN kk)).mono ?_; rintro e wd ⟨rfl, k5, rfl⟩)
            refine wpAny_ready (rs := [12]) (by kernel_rfl) (by simp) ?_
            refine AllReady.cons rfl (fun K hK => ?_) AllReady.nil
            go_simp
            refine hK _ _ ?_
            clear hK K
            refine wpAny_take (i := 13) (v := ?_) rfl (by kernel_rfl) (by kernel_rfl) (by kernel_rfl) (fun _ _ _ h => h) (Or.inl ⟨by kernel_rfl, ?_⟩) ?_
            rotate_left
            · (intro w; go_simp) <;> with_reducible rfl
            try dsimp only [Act.put]
            try simp only [Act.put, List.setIfInBounds_toArray, List.set_cons_zero, List.set_cons_succ]
            refine wpAny_ready (rs := [14]) (by kernel_rfl) (by simp) ?_
            refine AllReady.cons rfl (fun K hK => ?_) AllReady.nil
            go_simp
            refine hK _ _ ?_
            clear hK K
            refine wpAny_ready (rs := [15]) (by kernel_rfl) (by simp) ?_
            refine AllReady.cons rfl (fun K hK => ?_) AllReady.nil
            go_simp
            refine hK _ _ ?_
            clear hK K
            refine wpAny_done (by kernel_rfl) ?_ _
            go_wp2_with fail
            go_ret
            exact ⟨rfl, bdrewN (hb.drew.trans (hbW.mono hb.size)) (kk + k5)⟩
          · go_simp
            refine hK _ _ ?_
            clear hK K
            refine wpAny_ready (rs := [6]) (by kernel_rfl) (by simp) ?_
            refine AllReady.cons rfl (fun K hK => ?_) AllReady.nil
            go_simp
            go_wp2_with (go_at_call 47; refine (HNOW.out _ (tt.drewN kk)).mono ?_; rintro e wd ⟨rfl, k5, rfl⟩)
            refine wpAny_take (i := 13) (v := ?_) rfl (by kernel_rfl) (by kernel_rfl) (by kernel_rfl) (fun _ _ _ h => h) (Or.inl ⟨by kernel_rfl, ?_⟩) ?_
            rotate_left
            · (intro w; go_simp) <;> with_reducible rfl
            try dsimp only [Act.put]
            try simp only [Act.put, List.setIfInBounds_toArray, List.set_cons_zero, List.set_cons_succ]
            refine wpAny_ready (rs := [14]) (by kernel_rfl) (by simp) ?_
            refine AllReady.cons rfl (fun K hK => ?_) AllReady.nil
            go_simp
            refine hK _ _ ?_
            clear hK K
            refine wpAny_ready (rs := [15]) (by kernel_rfl) (by simp) ?_
            refine AllReady.cons rfl (fun K hK => ?_) AllReady.nil
            go_simp
            refine hK _ _ ?_
            clear hK K
            refine wpAny_done (by kernel_rfl) ?_ _
            go_wp2_with fail
            go_ret
            exact ⟨rfl, bdrewN (hb.drew.trans (hbW.mono hb.size)) (kk + k5)⟩
end Go.Proofs.Ytlpockgofejogaa
