/- The law UndoAll. -/
import Derived.Test.YtlpockgofejogaaUndoB
import Derived.Test.YtlpockgofejogaaSlSorted
namespace Go.Proofs.Ytlpockgofejogaa
open Go.RowKit
set_option linter.unusedVariables false
set_option linter.unusedSimpArgs false
set_option maxRecDepth 100000 in
theorem UndoAll_long (a : Option Addr) (len cap : Nat) (at_ : Int) (w : World) (h : 100 < len) :
    Calls Try.prog 12 #[.slice a len cap, .int .i64 at_] w fun e w' => e = .returned (.bool true) ∧ Below w.heap.size w w' := by
  have hd : decide ((100 : Int) < (len : Int)) = true := by rw [decide_eq_true_eq]; omega
  go_enter Try.func12, Try.ntmps12
  go_wp2_with fail
  refine (undone_any _).mono ?_
  rintro e w1 ⟨rfl, hb1⟩
  go_wp2_with fail
  go_ret
  exact ⟨rfl, hb1⟩
set_option maxRecDepth 100000 in
set_option maxHeartbeats 4000000 in
theorem UndoAll_walk (w : World) (a : Option Addr) (len cap : Nat) (zs : List Int) (at_ : Int) (hz : IsInts .i64 w a len cap zs) (h1 : -9223372036854775808 ≤ at_) (h2 : at_ ≤ 9223372036854775807) :
    Calls Try.prog 12 #[.slice a len cap, .int .i64 at_] w fun e w' => e = .returned (.bool true) ∧ Below w.heap.size w w' := by
  by_cases hlong : 100 < len
  · exact UndoAll_long a len cap at_ w hlong
  have hl100 : len ≤ 100 := by omega
  have hd : decide ((100 : Int) < (len : Int)) = false := by rw [decide_eq_false_iff_not]; omega
  have HZ := Lib.hid hz; clear hz hlong
  go_enter Try.func12, Try.ntmps12
  go_wp2_with fail
  refine (undone_any _).mono ?_
  rintro e w1 ⟨rfl, hb1⟩
  have hz1 := HZ.out.below hb1 (Nat.le_refl _)
  go_wp2_with fail
  refine (grown_any a len cap zs _ hz1 hl100).mono ?_
  rintro e w2 ⟨p, g, cp, E, now, rfl, hT, hG, hb2⟩
  have hB2 := hb1.trans (hb2.mono hb1.size)
  have hs1 := hb1.size
  clear hz1 hb1 hb2
  obtain ⟨N, hN⟩ : ∃ N, N = E.length := ⟨_, rfl⟩
  have hNl : N = len + 1 := by rw [hN]; exact hG.1
  have hlen := Len_I _ _ _ _ _ _ _ hT
  rw [← hN] at hlen
  have hpk := pickN_lt at_ N (by omega)
  have hpick := pick_at at_ (N : Nat) N w2 rfl (by omega) (by omega)
  generalize hm0 : pickN at_ N = n0 at *
  clear hm0
  have hgo := Go_I _ _ _ _ _ n0 _ _ hT (by omega)
  have hE1l : (Undo.go E n0).length = N := by rw [hN]; exact Undo.goF_length _ _ _
  have hE1u : Undo.up (Undo.go E n0) = Undo.up E := Undo.goF_up _ _ _
  have hE1w : Undo.wh (Undo.go E n0) n0 = .int .i64 (n0 : Nat) := by
    rw [show Undo.wh (Undo.go E n0) n0 = Undo.wh E n0 from Undo.goF_wh _ _ _ _]
    exact hG.2.1 n0 (by omega)
  have hUp : Undo.Up (Undo.up E) N := by rw [hN]; exact hT.up
  have hgu := hG.2.2
  rw [← hE1u] at hUp hgu
  have hpu := Undo.path_up _ N hUp n0 hpk
  have hps := Undo.path_sorted _ N hUp n0 hpk
  have hpz := Undo.path_zero _ N hUp n0 hpk
  have hpm := Undo.path_mem_lt _ N hUp n0 hpk
  have hppos := Undo.path_pos (Undo.up (Undo.go E n0)) n0
  have hple := Undo.path_len _ N hUp n0 hpk
  have hN101 : N ≤ 101 := by omega
  have hnn : ((N : Int) != (len : Int) + 1) = false := by rw [bne_eq_false_iff_eq]; omega
  have HLEN := Lib.hid hlen; clear hlen
  have HPICK := Lib.hid hpick; clear hpick
  have HGO := Lib.hid hgo; clear hgo
  generalize Undo.go E n0 = F at *
  clear hG hE1u
  have HF := Lib.hid hE1l; clear hE1l
  have HW := Lib.hid hE1w; clear hE1w
  generalize hP : Undo.path (Undo.up F) n0 = P at *
  have HP := Lib.hid hP; clear hP
  have HPU := Lib.hid hpu; clear hpu
  have HPS := Lib.hid hps; clear hps
  have HPZ := Lib.hid hpz; clear hpz
  have HPM := Lib.hid hpm; clear hpm
  have HGU := Lib.hid hgu; clear hgu
  have HN := Lib.hid hN; clear hN
  have HNL := Lib.hid hNl; clear hNl
  have hT0 := Lib.hid hT; clear hT
  clear hUp
  go_wp2_with fail
  refine HLEN.out.mono ?_
  rintro e w3 ⟨rfl, rfl⟩
  go_wp2_with fail
  refine HLEN.out.mono ?_
  rintro e w3 ⟨rfl, rfl⟩
  go_wp2_with fail
  refine HPICK.out.mono ?_
  rintro e w3 ⟨rfl, rfl⟩
  go_wp2_with fail
  refine HGO.out.mono ?_
  rintro e w3 ⟨rfl, hT, hTw⟩
  have hB3 : Below w.heap.size w w3 := by
    have := hT.pB
    have := hT.glt.1
    exact hB2.trans (hTw.below (by omega) (by omega) hB2.size)
  clear hB2 hTw HGO HPICK HLEN hT0
  go_wp2_with fail
  refine (Now_I _ _ _ _ _ _ _ hT).mono ?_
  rintro e w4 ⟨rfl, k1, rfl⟩
  rw [HW.out]
  have hnn0 : ((n0 : Int) != (n0 : Int)) = false := by simp
  have hT4 := hT.drewN k1
  have hB4 := bdrewN hB3 k1
  clear hT hB3
  generalize w3.drewN k1 = w4 at *
  go_wp2_with fail
  refine (At_I _ _ _ _ _ _ _ hT4).mono ?_
  rintro e w5 ⟨rfl, rfl⟩
  go_wp2_with fail
  refine (Way_I _ _ _ _ _ _ _ hT4).mono ?_
  rintro e w5 ⟨a0, c0, rfl, ho, hb5⟩
  rw [HP.out] at ho ⊢
  have hB5 := hB4.trans (hb5.mono hB4.size)
  clear hT4 hB4 hb5
  have hex : ∃ g0, a0 = some ⟨g0, 0, none⟩ := by
    cases a0 with
    | none => have := ho.of_none.1; omega
    | some x => exact ⟨x.block, by rw [← ho.row.1]⟩
  obtain ⟨g0, rfl⟩ := hex
  have hPg : ∀ i, i < P.length → (P.map fun (i : Nat) => (i : Int)).getD i 0 = ((P.getD i 0 : Nat) : Int) := fun i hi => by simp [List.getD_eq_getElem?_getD, List.getElem?_eq_getElem hi]
  have hc0 := ho.int 0 (by rw [List.length_map]; exact hppos)
  rw [hPg 0 hppos, HPZ.out] at hc0
  have hsorted : ∀ i, i + 1 < P.length → (P.map fun (i : Nat) => (i : Int)).getD i 0 ≤ (P.map fun (i : Nat) => (i : Int)).getD (i + 1) 0 := by
    intro i hi
    rw [hPg i (by omega), hPg (i + 1) hi]
    have := HPS.out i hi
    omega
  have hl0 : ((P.length : Int) == 0) = false := by rw [beq_eq_false_iff_ne]; omega
  have HPG := Lib.hid hPg; clear hPg
  have hpl : (P.map fun (i : Nat) => (i : Int)).length = P.length := by simp
  have hsort := fun w' (h : Owns w' w4.heap.size 3 1 (some ⟨g0, 0, none⟩) P.length c0 (ivals (P.map fun (i : Nat) => (i : Int)))) => IsSorted_yes _ P.length c0 _ w' hpl (by omega) h.readsI hsorted
  have HSORT := Lib.hid hsort; clear hsort hsorted hpl
  generalize hl : P.length = l at *
  have HL := Lib.hid hl; clear hl
  go_wp2_with fail
  refine (HSORT.out _ ho).mono ?_
  rintro e w6 ⟨rfl, k2, rfl⟩
  clear hc0
  have ho6 := ho.drewN k2
  have hB6 := bdrewN hB5 k2
  clear ho hB5 HSORT
  generalize w5.drewN k2 = w6 at *
  go_wp2_with fail
  go_loopw [7] (fun i wr => ∃ k : Nat, 1 ≤ k ∧ k ≤ l ∧ i = .int .i64 k ∧ Hid (Owns wr w4.heap.size 3 1 (some ⟨g0, 0, none⟩) l c0 (ivals (P.map fun (i : Nat) => (i : Int)))) ∧ Below w.heap.size w wr) (fun i _ => l - (intOf i).toNat)
  case atStart => exact ⟨1, by omega, hppos, rfl, ho6, hB6⟩
  case round =>
    clear ho6 hB6
    obtain ⟨k, hk1, hk, rfl, HO, hb⟩ := hrel
    by_cases hlt : k < l
    · obtain ⟨j, rfl⟩ : ∃ j, k = j + 1 := ⟨k - 1, by omega⟩
      have e1 : ((j + 1 : Nat) : Int) = (j : Int) + 1 := by omega
      have hcj := HO.out.int j (by rw [List.length_map, HL.out]; omega)
      have hck := HO.out.int (j + 1) (by rw [List.length_map, HL.out]; omega)
      rw [HPG.out j (by omega)] at hcj
      rw [HPG.out (j + 1) (by omega)] at hck
      have hup := HPU.out j (by omega)
      have hst := HPS.out j (by omega)
      have hmem := HPM.out (P.getD (j + 1) 0) (by rw [List.getD_eq_getElem?_getD, List.getElem?_eq_getElem (by rw [HL.out]; omega)]; exact List.getElem_mem _)
      generalize P.getD j 0 = x at *
      generalize P.getD (j + 1) 0 = y at *
      have hgu := HGU.out y (by omega) (by have := HNL.out; omega)
      rw [hup] at hgu
      obtain ⟨z, hzx, hzl, hzc⟩ := HZ.out.cell (y - 1) (by have := HNL.out; omega)
      subst hzx
      have hzc' : wr.cell? (z.add (y - 1)) = some (.int .i64 (zs.getD (y - 1) 0)) := by
        rw [World.cell?_of_block (w := w) (w' := wr) (a := z.add (y - 1))]
        · exact hzc
        · rw [Addr.add_block]; exact hb.block _ hzl
      have hpick := fun w' => turn (pick_at (zs.getD (y - 1) 0) ((y : Int) - 1 + 1) y w' (by omega) (by omega) (by omega))
      have hxp : x = pickN (zs.getD (y - 1) 0) y := by omega
      rw [← hxp] at hpick
      have HPICK := Lib.hid hpick; clear hpick hgu hxp hup
      clear hzc
      generalize zs.getD (y - 1) 0 = v at *
      obtain ⟨q, rfl⟩ : ∃ q, y = q + 1 := ⟨y - 1, by omega⟩
      have e2 : ((q + 1 : Nat) : Int) = (q : Int) + 1 := by omega
      have e3 : ((q + 1 : Nat) : Int) - 1 + 1 = (q : Int) + 1 := by omega
      have hpick := HPICK.out
      rw [e3] at hpick
      have HPICK2 := Lib.hid hpick; clear hpick HPICK e3
      have hqlen : (q : Int) < (len : Int) := by have := HNL.out; omega
      have hjl : (j : Int) + 1 < (l : Int) := by omega
      have hjl2 : (j : Int) < (l : Int) := by omega
      have t1 : ((j : Int) + 1).toNat = j + 1 := by omega
      have t2 : (0 : Int) ≤ (j : Int) + 1 := by omega
      have t3 : IntKind.i64.wrap (j : Int) = (j : Int) := IntWalk.i64_in _ ⟨by omega, by omega⟩
      have t4 : IntKind.i64.wrap (q : Int) = (q : Int) := IntWalk.i64_in _ ⟨by omega, by omega⟩
      have t5 : (0 : Int) ≤ (q : Int) := by omega
      have t6 : (0 : Int) ≤ (j : Int) := by omega
      rw [Nat.add_sub_cancel] at hzc'
      rw [e2] at hck
      go_wp2_with fail
      go_quiet (first | (go_at_call 17; with_reducible exact Calls.quiet_of_same (HPICK2.out _)))
      go_wp2_with fail
      go_roundw
      case rel => exact ⟨j + 1 + 1, by omega, by omega, by go_num, HO.out.drewN _, bdrewN hb _⟩
      case measure => simp [intOf]; omega
    · obtain rfl : k = l := by omega
      have hdd : decide ((k : Int) < (k : Int)) = false := by simp
      go_wp2_with fail
      go_ret
      exact ⟨rfl, hb⟩
end Go.Proofs.Ytlpockgofejogaa
