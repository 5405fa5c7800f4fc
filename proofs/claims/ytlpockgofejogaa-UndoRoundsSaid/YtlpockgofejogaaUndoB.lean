/- Contracts of the laws' own helpers: undone, grown. -/
import Derived.Test.YtlpockgofejogaaUndoA
import Derived.Test.YtlpockgofejogaaSlEqual
import Derived.Test.YtlpockgofejogaaPick
import Derived.Deep.RegionWith
namespace Go.Proofs.Ytlpockgofejogaa
open Go.RowKit
set_option linter.unusedVariables false
set_option linter.unusedSimpArgs false
set_option maxRecDepth 100000 in
set_option maxHeartbeats 2000000 in
theorem undone_any (w : World) : Calls Try.prog 39 #[] w fun e w' => e = .returned (.bool true) ∧ Below w.heap.size w w' := by
  go_enter Try.func39, Try.ntmps39
  go_wp2_with fail
  refine (New_S (bstr [97]) _).mono ?_
  rintro e w1 ⟨p, g, rfl, h1, hb1⟩
  go_wp2_with fail
  refine (Add_S _ _ _ _ _ _ (bstr [98]) _ h1 (by decide)).mono ?_
  rintro e w2 ⟨g2, c2, rfl, h2, hb2, hs2⟩
  replace h2 : TreeAt 108 105 w.heap.size w2 p g2 c2 [(.string (bstr [97]), -1, 1), (.string (bstr [98]), 0, -1)] 1 := h2
  replace hb1 := hb1.trans hb2
  clear hb2 h1
  go_wp2_with fail
  refine (Add_S _ _ _ _ _ _ (bstr [99]) _ h2 (by decide)).mono ?_
  rintro e w3 ⟨g3, c3, rfl, h3, hb3, hs3⟩
  replace h3 : TreeAt 108 105 w.heap.size w3 p g3 c3 [(.string (bstr [97]), -1, 1), (.string (bstr [98]), 0, 2), (.string (bstr [99]), 1, -1)] 2 := h3
  replace hb1 := hb1.trans hb3
  clear hb3 h2
  go_wp2_with fail
  refine (Undo_S _ _ _ _ _ 1 _ _ h3 rfl).mono ?_
  rintro e w4 ⟨rfl, h4, ht4⟩
  replace h4 : TreeAt 108 105 w.heap.size w4 p g3 c3 [(.string (bstr [97]), -1, 1), (.string (bstr [98]), 0, 2), (.string (bstr [99]), 1, -1)] 1 := h4
  replace hb1 := hb1.trans (ht4.below h3.pB h3.glt.1 hb1.size)
  clear ht4 h3
  go_wp2_with fail
  refine ((Now_S _ _ _ _ _ _ _ h4).mono (R' := fun e w' => e = .returned (.string (bstr [98])) ∧ ∃ k, w' = w4.drewN k) (fun _ _ h => h)).mono ?_
  rintro e w5 ⟨rfl, k1, rfl⟩
  replace h4 := h4.drewN k1
  replace hb1 := bdrewN hb1 k1
  generalize w4.drewN k1 = w5 at *
  go_wp2_with fail
  refine (Redo_S _ _ _ _ _ 2 _ _ h4 rfl).mono ?_
  rintro e w6 ⟨rfl, h6, ht6⟩
  replace hb1 := hb1.trans (ht6.below h4.pB h4.glt.1 hb1.size)
  clear ht6 h4
  go_wp2_with fail
  refine ((Now_S _ _ _ _ _ _ _ h6).mono (R' := fun e w' => e = .returned (.string (bstr [99])) ∧ ∃ k, w' = w6.drewN k) (fun _ _ h => h)).mono ?_
  rintro e w7 ⟨rfl, k2, rfl⟩
  replace h6 := h6.drewN k2
  replace hb1 := bdrewN hb1 k2
  generalize w6.drewN k2 = w7 at *
  go_wp2_with fail
  refine ((Len_S _ _ _ _ _ _ _ h6).mono (R' := fun e w' => e = .returned (.int .i64 3) ∧ w7 = w') (fun _ _ h => h)).mono ?_
  rintro e w8 ⟨rfl, rfl⟩
  go_wp2_with fail
  refine ((Way_S _ _ _ _ _ _ _ h6).mono (R' := fun e w' => ∃ a cap', e = .returned (.slice a 3 cap') ∧ Owns w' w7.heap.size 3 1 a 3 cap' (ivals [0, 1, 2]) ∧ Below w7.heap.size w7 w') (fun _ _ h => h)).mono ?_
  rintro e w8 ⟨a, cap', rfl, ho, hb8⟩
  replace hb1 := hb1.trans (hb8.mono hb1.size)
  clear hb8 h6
  go_wp2_with fail
  refine (Equal_yes _ _ _ _ _ _ [0, 1, 2] _ rfl rfl (by decide) (ho.alloc _).readsI (RowAt.new' _ _ (by simp) 3 #[.int .i64 0, .int .i64 1, .int .i64 2]).readsI).mono ?_
  rintro e w9 ⟨rfl, k3, rfl⟩
  go_wp2_with fail
  go_ret
  exact ⟨rfl, bdrewN (hb1.alloc hb1.size _) _⟩
/-- a tree of numbers: each state is its number, and was made of the one that was told -/
def Grown (E : List Undo.Ent) (zs : List Int) (n : Nat) : Prop :=
  E.length = n + 1 ∧ (∀ k, k ≤ n → Undo.wh E k = .int .i64 (k : Nat)) ∧ (∀ k, 1 ≤ k → k ≤ n → Undo.up E k = (pickN (zs.getD (k - 1) 0) k : Nat))
set_option maxRecDepth 100000 in
set_option maxHeartbeats 2000000 in
theorem grown_any (a : Option Addr) (len cap : Nat) (zs : List Int) (w : World) (hz : IsInts .i64 w a len cap zs) (hl : len ≤ 100) : Calls Try.prog 40 #[.slice a len cap] w fun e w' => ∃ p g cp E now,
    e = .returned (.pointer (some ⟨p, 0, none⟩)) ∧ TreeAt 94 96 w.heap.size w' p g cp E now ∧ Grown E zs len ∧ Below w.heap.size w w' := by
  have HZ := Lib.hid hz; clear hz
  go_enter Try.func40, Try.ntmps40
  go_wp2_with fail
  refine (New_I 0 _).mono ?_
  rintro e w1 ⟨p, g, rfl, h1, hb1⟩
  have hp1 := h1.pB
  go_wp2_with fail
  go_loopw [4] (fun i wr => ∃ (k g cp now : Nat) (E : List Undo.Ent), k ≤ len ∧ i = .int .i64 k ∧ Hid (TreeAt 94 96 w.heap.size wr p g cp E now) ∧ Hid (Grown E zs k) ∧ Below w.heap.size w wr) (fun i _ => len - (intOf i).toNat)
  case atStart =>
    refine ⟨0, g, 1, 0, [(.int .i64 0, -1, -1)], by omega, rfl, h1, ⟨rfl, ?_, fun k h1 h2 => by omega⟩, hb1⟩
    intro k hk
    obtain rfl : k = 0 := by omega
    rfl
  case round =>
    clear h1 hb1
    obtain ⟨k, g, cp, now, E, hk, rfl, HT, HG, hb⟩ := hrel
    by_cases hlt : k < len
    · have hkI : (k : Int) < (len : Int) := by omega
      have hex := HZ.out.cell k hlt
      obtain ⟨x, rfl, hxl, hxc⟩ := hex
      have hxc' : wr.cell? (x.add k) = some (.int .i64 (zs.getD k 0)) := by
        rw [World.cell?_of_block (w := w) (w' := wr) (a := x.add k)]
        · exact hxc
        · rw [Addr.add_block]; exact hb.block _ hxl
      obtain ⟨N, hN⟩ : ∃ N, N = E.length := ⟨_, rfl⟩
      have hNk : N = k + 1 := by rw [hN]; exact HG.out.1
      have hlen := fun w' (h : TreeAt 94 96 w.heap.size w' p g cp E now) => Len_I _ _ _ _ _ _ w' h
      rw [← hN] at hlen
      have hpk := pickN_lt (zs.getD k 0) N (by omega)
      have hpick := fun w' => pick_at (zs.getD k 0) (N : Nat) N w' rfl (by omega) (by omega)
      have hgo := fun w' (h : TreeAt 94 96 w.heap.size w' p g cp E now) => Go_I _ _ _ _ _ (pickN (zs.getD k 0) N) _ w' h (by omega)
      have hgl : (Undo.go E (pickN (zs.getD k 0) N)).length = N := by rw [hN]; exact Undo.goF_length _ _ _
      have hlen2 := fun w' (h : TreeAt 94 96 w.heap.size w' p g cp (Undo.go E (pickN (zs.getD k 0) N)) (pickN (zs.getD k 0) N)) => Len_I _ _ _ _ _ _ w' h
      have hadd := fun w' (h : TreeAt 94 96 w.heap.size w' p g cp (Undo.go E (pickN (zs.getD k 0) N)) (pickN (zs.getD k 0) N)) => Add_I _ _ _ _ _ _ (N : Nat) w' h (by omega)
      rw [hgl] at hlen2 hadd
      have hgr : Grown (Undo.setDn (Undo.go E (pickN (zs.getD k 0) N) ++ [((.int .i64 (N : Nat) : Value), ((pickN (zs.getD k 0) N : Nat) : Int), (-1 : Int))]) (pickN (zs.getD k 0) N) (N : Nat)) zs (k + 1) := by
        obtain ⟨g1, g2, g3⟩ := HG.out
        refine ⟨by rw [Undo.setDn_length, List.length_append, hgl, hNk]; rfl, ?_, ?_⟩
        · intro j hj
          rw [Undo.wh_setDn, Undo.wh_append, hgl]
          split
          · rename_i h; rw [h]
          · rw [show Undo.wh (Undo.go E _) j = Undo.wh E j from Undo.goF_wh _ _ _ _]
            exact g2 j (by omega)
        · intro j h1 h2
          rw [Undo.up_setDn, Undo.up_append, hgl]
          split
          · rename_i h
            rw [h, show N - 1 = k from by omega]
          · rw [show Undo.up (Undo.go E _) = Undo.up E from Undo.goF_up _ _ _]
            exact g3 j h1 (by omega)
      have HLEN := Lib.hid hlen; clear hlen
      have HPICK := Lib.hid hpick; clear hpick
      have HGO := Lib.hid hgo; clear hgo
      have HLEN2 := Lib.hid hlen2; clear hlen2
      have HADD := Lib.hid hadd; clear hadd
      have HGR := Lib.hid hgr; clear hgr
      generalize Undo.go E (pickN (zs.getD k 0) N) = E2 at *
      generalize pickN (zs.getD k 0) N = n at *
      generalize zs.getD k 0 = z at *
      have HN := Lib.hid hN; clear hN
      have HNK := Lib.hid hNk; clear hNk
      have HGL := Lib.hid hgl; clear hgl
      clear hxc
      go_wp2_with fail
      go_region_with (first
        | (go_at_call 42; refine (HLEN.out _ HT.out.drew).mono ?_; rintro e wa ⟨rfl, rfl⟩)
        | (go_at_call 17; refine (HPICK.out _).mono ?_; rintro e wa ⟨rfl, rfl⟩)
        | (go_at_call 41; refine (HGO.out _ HT.out.drew).mono ?_; rintro e wa ⟨rfl, ha, hta⟩)
        | (go_at_call 42; refine (HLEN2.out _ ha).mono ?_; rintro e wb ⟨rfl, rfl⟩)
        | (go_at_call 69; refine (HADD.out _ ha).mono ?_; rintro e wb ⟨g', cp', rfl, hb', hbb, hsb⟩))
      all_goals
        go_wp2_with fail
        go_roundw
        case rel => exact ⟨k + 1, g', cp', N, _, by omega, by go_num, hb', HGR.out, (hb.drew.trans (hta.below HT.out.pB HT.out.glt.1 hb.size)).trans hbb⟩
        case measure => simp [intOf]; omega
    · obtain rfl : k = len := by omega
      have hd : decide ((k : Int) < (k : Int)) = false := by simp
      go_wp2_with fail
      go_ret
      exact ⟨p, g, cp, E, now, rfl, HT.out, HG.out, hb⟩
end Go.Proofs.Ytlpockgofejogaa
