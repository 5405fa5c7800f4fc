/- The fact reckoned. -/
import Derived.Test.YtnmbakibiaedhaaDoorReadK
namespace Go.Proofs.YtnmbakibiaedhaaDoor
open Go.RowKit
set_option linter.unusedVariables false
set_option linter.unusedSimpArgs false
open Rd
open Ex (X levels)
theorem Same.fine {num : Ex.NumOf} {dec : Ex.Dec} {x y : X} (h : Ex.Same x y) (hx : Ex.Fine num dec x) : Ex.Fine num dec y := by
  induction h with
  | num => exact hx
  | name => exact hx
  | bin a b op _ _ ih1 ih2 => exact ⟨hx.1, ih1 hx.2.1, ih2 hx.2.2⟩
theorem toks_of {s : List UInt8} {L : List (List UInt8)} (h : Ex.texts s 0 = some L) : ∃ T, Lex.lexA s 0 = some T ∧ T.map Prod.fst = L := by
  unfold Ex.texts at h
  rw [Option.map_eq_some_iff] at h
  exact h
theorem few_toks {s : List UInt8} {T : List Rd.Tok} (hs : s.length ≤ 3000) (h : Lex.lexA s 0 = some T) : ∀ t ∈ T, t.1.length ≤ 100000 := fun t ht => by
  have := (toks_le s.length s 0 T (Nat.le_refl _) h).2 t ht
  omega
/-- what is written is read -/
theorem parse_pr (x : X) (hx : Ex.Fine Num.numOf Num.dec x) (hd : Ex.deepAt Num.dec x ≤ 8) (hl : (Ex.pr Num.dec x).length ≤ 3000) (w : World) (hm : MarksAt w) (he : Env w w.heap.size) :
    Calls Tryd.prog 12 #[.string (bstr (Ex.pr Num.dec x))] w fun e w' => ∃ b y, Ex.Same x y ∧ e = .returned (.tuple #[.pointer (some ⟨b, 0, none⟩), .nilIface]) ∧ IsX w' w.heap.size b y ∧ Below w.heap.size w w' := by
  obtain ⟨T, hT, hTm⟩ := toks_of (Ex.texts_again x hx)
  obtain ⟨y, hy, hp⟩ := Ex.again_read (num := Num.numOf) (dec := Num.dec) (E := (Ex.pr Num.dec x).length) x hx hd T hTm
  exact (Parse_ok _ T y w hl hm he hT (few_toks hl hT) hp).mono fun e w' ⟨b, h1, h2, h3⟩ => ⟨b, y, hy, h1, h2, h3⟩
def xF : X := .bin 0 [43] (.num 0 2) (.bin 0 [42] (.num 0 3) (.bin 0 [45] (.name 0 [97]) (.num 0 1)))
theorem xF_pr : Ex.pr Num.dec xF = [50, 32, 43, 32, 51, 32, 42, 32, 40, 97, 32, 45, 32, 49, 41] := by decide +kernel
theorem dec_fine (n : Nat) (hn : n < 9223372036854775808) : Ex.Fine Num.numOf Num.dec (.num 0 n) := Ex.num_ok (Num.dec n) n (Num.numOf_dec n hn)
theorem xF_fine : Ex.Fine Num.numOf Num.dec xF := ⟨by decide, dec_fine 2 (by decide), by decide, dec_fine 3 (by decide), by decide, ⟨by decide, by decide, by decide, 97, [], rfl, by decide⟩, dec_fine 1 (by decide)⟩
theorem xF_deep : Ex.deepAt Num.dec xF ≤ 8 := by decide +kernel
theorem nmF : nm ((DataW.map [] : DataW Unit).put (.string [97]) (.lit (.int .i64 5))) [97] = some 5 := by rfl
theorem evF : Ex.ev (nm ((DataW.map [] : DataW Unit).put (.string [97]) (.lit (.int .i64 5)))) xF = some 14 := by
  show (some (2 : Int)).bind _ = _
  rfl
theorem env_up {w w' : World} {B : Nat} (h : Env w B) (hb : Below w.heap.size w w') (hB : B ≤ w.heap.size) : Env w' B := by
  have key : ∀ (p : Addr), p.block < B → w'.cell? p = w.cell? p := fun p hlt => hb.cell (p := p) (Nat.lt_of_lt_of_le hlt hB)
  refine ⟨⟨h.lv.1, fun k hk => ?_⟩, (key ⟨_, 0, none⟩ h.eb).trans h.er, h.eb⟩
  obtain ⟨gk, ck, h1, h2, h3⟩ := h.lv.2 k hk
  exact ⟨gk, ck, (key ⟨_, k, none⟩ h.lv.1).trans h1, h2, fun j hj => (key (gk.add j) (by rw [Addr.add_block]; exact h2)).trans (h3 j hj)⟩
theorem env_to {w : World} {B B' : Nat} (h : Env w B) (hB : B ≤ B') : Env w B' := by
  refine ⟨⟨Nat.lt_of_lt_of_le h.lv.1 hB, fun k hk => ?_⟩, h.er, Nat.lt_of_lt_of_le h.eb hB⟩
  obtain ⟨gk, ck, h1, h2, h3⟩ := h.lv.2 k hk
  exact ⟨gk, ck, h1, Nat.lt_of_lt_of_le h2 hB, h3⟩
/-- the tables, in a later world -/
structure Base (w : World) : Prop where
  env : Env w w.heap.size
  mks : MarksAt w
theorem Base.up {w w' : World} (h : Base w) (hb : Below w.heap.size w w') : Base w' := ⟨env_to (env_up h.env hb (Nat.le_refl _)) hb.size, h.mks.below hb (Nat.le_refl _)⟩
set_option maxRecDepth 100000 in
set_option maxHeartbeats 1000000 in
theorem reckoned_any (w : World) (hB : Base w) : Calls Tryd.prog 10 #[] w fun e w' => e = .returned (.bool true) ∧ Below w.heap.size w w' := by
  have hp := parse_pr xF xF_fine xF_deep (by rw [xF_pr]; decide) w hB.mks hB.env
  rw [xF_pr] at hp
  have HP := Lib.hid hp
  have HB := Lib.hid hB
  clear hp hB
  go_enter Tryd.func10, Tryd.ntmps10
  go_wp2_with fail
  refine HP.out.mono ?_
  rintro e w1 ⟨b, y, hs, rfl, hx, hb1⟩
  have hmm : ∀ V : World, (Instr.makeMap 22 none).run Tryd.prog V = .ok (.map (some V.heap.size)) (V.alloc (.map #[] 0)) := fun V => by kernel_rfl
  have hmade := World.ownsMap_made w1 Tryd.prog 9 (plainElem (H := Unit) Tryd.prog 3)
  obtain ⟨w3, hrun, hown3, hg3⟩ := hmade.update (Maps.string_keyed Tryd.underlying9) Tryd.underlying22 (by unfold maxLen; omega) (WideMaps.keyOf_string_mk (s := bstr [97]) Tryd.underlying9 (by rw [bstr_size]; unfold maxLen; decide)) (plainElem_int (a := 5) Tryd.underlying3 (by decide))
  have hrun2 : (Instr.mapUpdate 22 (.map (some w1.heap.size)) (.string { data := #[97] }) (.int .i64 5)).run Tryd.prog (w1.alloc (.map #[] 0)) = .ok () w3 := hrun
  have hb3 : Below w1.heap.size w1 w3 := ((Below.refl _ w1).alloc (Nat.le_refl _) _).grown hg3 (by simp) (fun k e => by cases e; exact Nat.le_refl _)
  obtain ⟨k3, _, hN⟩ := names_own hown3
  have hfy := Same.fine hs xF_fine
  have hx3 := IsX.grown (below_grown hb3 (some w.heap.size)) y b hx
  have hev := (Eval_x w3 (.map (some w1.heap.size)) _ k3 hN y hfy) w3 w.heap.size b (Below.refl _ _) hx3
  rw [← hs.ev, show (bstr [97]).data.toList = [97] from rfl, evF] at hev
  unfold EvPost at hev
  have HEV := Lib.hid hev
  have HX3 := Lib.hid hx3; have HB3 := Lib.hid (hb1.trans (hb3.mono hb1.size)); have HFY := Lib.hid hfy; have HS := Lib.hid hs
  clear hmade hown3 hg3 hb3 hN hfy hev hx3 hx hb1 hs
  go_wp2_with fail
  refine HEV.out.mono ?_
  rintro e w4 ⟨hb4, rfl⟩
  have HB4 := Lib.hid (HB3.out.trans (hb4.mono HB3.out.size))
  have ht := Text_x y HFY.out w4 w.heap.size b (env_up HB.out.env HB4.out (Nat.le_refl _)).lv HB4.out.size (IsX.grown (below_grown hb4 (some w.heap.size)) y b HX3.out) (by rw [← (HS.out.pr).2, xF_pr]; decide)
  rw [← (HS.out.pr).2, xF_pr] at ht
  have HT := Lib.hid ht
  clear hb4 ht
  go_wp2_with fail
  refine HT.out.mono ?_
  rintro e w5 ⟨rfl, hb5⟩
  have HB5 := Lib.hid (HB4.out.trans (hb5.mono HB4.out.size))
  clear hb5
  go_wp2_with fail
  go_ret
  exact ⟨rfl, HB5.out⟩
end Go.Proofs.YtnmbakibiaedhaaDoor
