/- slices.EqualFunc of tokens, the fact cutUp, and the law LexAgain. -/
import Derived.Test.YtnldobfafaajjaaDoorLexE
import Derived.Test.YtnldobfafaajjaaDoorPick
namespace Go.Proofs.YtnldobfafaajjaaDoor
open Go.RowKit
set_option linter.unusedVariables false
set_option linter.unusedSimpArgs false
set_option maxRecDepth 100000 in
theorem EqualFunc_yes (a b : Option Addr) (n c d : Nat) (T M : List Tok) (w : World) (hT : T.length = n) (hTM : M.map Prod.fst = T.map Prod.fst) (hn : n ≤ 1000000) (ha : ReadsTok w a T) (hb : ReadsTok w b M) :
    Calls Tryd.prog 14 #[.slice a n c, .slice b n d, .func (.func 15) #[] #[]] w fun e w' => e = .returned (.bool true) ∧ Below w.heap.size w w' := by
  have hM : M.length = n := by have := congrArg List.length hTM; rw [List.length_map, List.length_map] at this; omega
  have htx : ∀ k, k < n → (M.getD k ([], 0)).1 = (T.getD k ([], 0)).1 := by
    intro k hk
    have := congrArg (fun l => l.getD k []) hTM
    simp only [List.getD_eq_getElem?_getD, List.getElem?_map] at this ⊢
    rw [List.getElem?_eq_getElem (by omega), List.getElem?_eq_getElem (by omega)] at this ⊢
    exact this
  have HT := Lib.hid hT; have HM := Lib.hid hM; have HX := Lib.hid htx
  clear hT hM htx hTM
  have HA := Lib.hid ha; clear ha
  have HB := Lib.hid hb; clear hb
  have hnn : ((n : Int) != (n : Int)) = false := by simp
  go_enter Tryd.func14, Tryd.ntmps14
  go_wp2_with fail
  go_loopw [7, 8, 9, 17] (fun _ _ _ v17 wr => ∃ k : Nat, k ≤ n ∧ v17 = .int .i64 k ∧ Hid (Below w.heap.size w wr)) (fun _ _ _ v17 _ => n - (intOf v17).toNat)
  case atStart => exact ⟨0, by omega, rfl, Lib.hid (Below.refl _ _)⟩
  case round =>
    obtain ⟨k, hk, rfl, HW⟩ := hrel
    by_cases hlt : k < n
    · obtain ⟨g, rfl, hg, hc1, hc2⟩ := (HA.out.below HW.out (Nat.le_refl _)) k (by rw [HT.out]; exact hlt)
      obtain ⟨g', rfl, hg', hc3, hc4⟩ := (HB.out.below HW.out (Nat.le_refl _)) k (by rw [HM.out]; exact hlt)
      have hki : (k : Int) < (n : Int) := by omega
      rw [HX.out k hlt] at hc3
      generalize bstr (T.getD k ([], 0)).1 = x at *
      generalize (T.getD k ([], 0)).2 = p at *
      generalize (M.getD k ([], 0)).2 = q at *
      have hs := fun w => same_any x (p : Nat) (q : Nat) w
      have HS := Lib.hid hs; clear hs
      have hws := HW.out.size
      have hbb := fun o1 o2 => ((Below.refl wr.heap.size wr).alloc (Nat.le_refl _) o1).alloc (by simp) o2
      have HBB := Lib.hid hbb; clear hbb
      go_wp2_with fail
      refine (HS.out _).mono ?_
      rintro e w1 ⟨rfl, hb1⟩
      have hfin := HW.out.trans ((HBB.out (.cells #[.string x, .int .i64 (p : Nat)] 32) (.cells #[.string x, .int .i64 (q : Nat)] 32)).mono hws)
      have HFIN := Lib.hid (hfin.trans (hb1.mono hfin.size))
      clear hb1 hfin hc1 hc2 hc3 hc4
      go_wp2_with fail
      go_roundw
      case rel => exact ⟨k + 1, by omega, by go_num, HFIN⟩
      case measure => simp [intOf]; omega
    · obtain rfl : k = n := by omega
      have hd : decide ((k : Int) < (k : Int)) = false := by simp
      go_wp2_with fail
      go_ret
      exact ⟨rfl, HW.out⟩
def cutToks : List Tok := [([97], 0), ([61, 61], 1), ([49, 50], 3), ([59], 10)]
set_option maxRecDepth 100000 in
theorem cutUp_any (w : World) (hm : MarksAt w) : Calls Tryd.prog 10 #[] w fun e w' => e = .returned (.bool true) ∧ Below w.heap.size w w' := by
  have hlex := Lex_any [97, 61, 61, 49, 50, 32, 35, 32, 98, 10, 59] w (by decide) hm
  have hval : Lex.lexA [97, 61, 61, 49, 50, 32, 35, 32, 98, 10, 59] 0 = some cutToks := by decide
  have HV := Lib.hid hval; have HL := Lib.hid hlex
  clear hval hlex
  have HN := Lib.hid (fun w => Name_x1 w)
  go_enter Tryd.func10, Tryd.ntmps10
  go_wp2_with fail
  refine HL.out.mono ?_
  rintro e w1 ⟨hb, ⟨T, a, cap, hT, rfl, ho⟩ | ⟨hT, _⟩⟩
  · have hTe : T = cutToks := Option.some.inj (hT.symm.trans HV.out)
    subst hTe
    have hrd := ownTok ho
    have HR := Lib.hid hrd; have HB := Lib.hid hb
    clear hrd hT ho hb
    go_wp2_with fail
    refine (tokEqual_yes a _ 4 cap 4 cutToks _ rfl (by decide) (HR.out.below ((Below.refl _ _).alloc (Nat.le_refl _) _) (Nat.le_refl _)) (rowTok (RowAt.new2 w1 w1.heap.size rfl 32 (tokCells cutToks)))).mono ?_
    rintro e w2 ⟨rfl, k, rfl⟩
    go_wp2_with fail
    refine (HN.out _).mono ?_
    rintro e w2 ⟨rfl, rfl⟩
    go_wp2_with fail
    go_ret
    exact ⟨rfl, bdrewN (HB.out.alloc HB.out.size _) _⟩
  · rw [HV.out] at hT; cases hT
end Go.Proofs.YtnldobfafaajjaaDoor
