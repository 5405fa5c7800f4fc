/- The laws' own decimal: a number's digits. -/
import Derived.Test.YtlpkebngehmimaaGreatDoorMgTypesMore43
import Derived.Test.YtlpkebngehmimaaGreatDoorMgTypesMore31
import Derived.Test.YtlpkebngehmimaaGreatDoorMgTypesMore44
import Derived.Test.YtlpkebngehmimaaGreatDoorMgTypesMore7
import Derived.Test.YtlpkebngehmimaaGreatDoorMgTypesMore16
section
/- tmpl.Parse, whatever the text. -/
namespace Go.Proofs.YtlpkebngehmimaaGreatDoor
open Go.RowKit
set_option linter.unusedVariables false
set_option linter.unusedSimpArgs false
open Rd
set_option maxRecDepth 100000 in
set_option maxHeartbeats 1000000 in
theorem TParse_long (s : List UInt8) (w : World) (hs : 3000 < s.length) (hs2 : s.length ≤ 1000000) :
    Calls Tryz.prog 8 #[.string (bstr s)] w fun e w' => e = .returned (.tuple #[.slice none 0 0, .iface 35 (.int .i64 4)]) ∧ Below w.heap.size w w' := by
  have HL := Lib.hid (fun w => LexRead_long s w hs hs2)
  clear hs hs2
  go_enter_defers Tryz.func8, Tryz.ntmps8
  go_wp2_with fail
  refine (HL.out _).mono ?_
  rintro e w1 ⟨rfl, rfl⟩
  go_wp2_with fail
  go_region
  all_goals
    go_wp2_with fail
    simp [bodyPostD, Leaves, settle, results, Tryz.results8, go_sem]
    exact ((Below.refl _ w).alloc (Nat.le_refl _) _).drew
set_option maxRecDepth 100000 in
set_option maxHeartbeats 1000000 in
theorem TParse_lexbad (s : List UInt8) (w : World) (hs : s.length ≤ 3000) (hm : MarksAt w) (hn : Lex.lexA s 0 = none) :
    Calls Tryz.prog 8 #[.string (bstr s)] w fun e w' => (∃ g, e = .returned (.tuple #[.slice none 0 0, .iface 109 (.pointer (some ⟨g, 0, none⟩))])) ∧ Below w.heap.size w w' := by
  have HL := Lib.hid (LexRead_bad s (w.alloc (.cells #[.nilIface] 27)) hs (hm.below ((Below.refl _ w).alloc (Nat.le_refl _) _) (Nat.le_refl _)) hn)
  clear hs hm hn
  go_enter_defers Tryz.func8, Tryz.ntmps8
  go_wp2_with fail
  refine HL.out.mono ?_
  rintro e w1 ⟨⟨g, rfl⟩, hb⟩
  have hbox : w1.cell? ⟨w.heap.size, 0, none⟩ = some .nilIface := (hb.cell (p := ⟨w.heap.size, 0, none⟩) (by simp)).trans (by simp)
  have hfz : w1.frozen? ⟨w.heap.size, 0, none⟩ = false := (hb.frozen (p := ⟨w.heap.size, 0, none⟩) (by simp)).trans (by simp)
  have hbb : Below w.heap.size w w1 := ((Below.refl _ w).alloc (Nat.le_refl _) _).trans (hb.mono (by simp))
  have HB := Lib.hid hbb
  have hc1 : (w1.setCell ⟨w.heap.size, 0, none⟩ (.iface 109 (.pointer (some ⟨g, 0, none⟩)))).cell? ⟨w.heap.size, 0, none⟩ = some (.iface 109 (.pointer (some ⟨g, 0, none⟩))) := World.cell?_setCell_same' _ _ _ (by rw [hbox]; rfl)
  have hc2 : ((w1.setCell ⟨w.heap.size, 0, none⟩ (.iface 109 (.pointer (some ⟨g, 0, none⟩)))).setCell ⟨w.heap.size, 0, none⟩ (.iface 109 (.pointer (some ⟨g, 0, none⟩)))).cell? ⟨w.heap.size, 0, none⟩ = some (.iface 109 (.pointer (some ⟨g, 0, none⟩))) := World.cell?_setCell_same' _ _ _ (by rw [hc1]; rfl)
  clear hb hbb
  go_wp2_with fail
  go_region
  all_goals
    go_wp2_with fail
    simp [bodyPostD, Leaves, settle, results, Tryz.results8, go_sem, hc2]
    exact ((HB.out.setCell (p := ⟨w.heap.size, 0, none⟩) (Nat.le_refl _) _).setCell (p := ⟨w.heap.size, 0, none⟩) (Nat.le_refl _) _).drew
theorem toks_lex {s : List UInt8} {T : List Rd.Tok} (hs : s.length ≤ 3000) (h : Lex.lexA s 0 = some T) : Toks T ∧ Tm.Wordy T ∧ T.length ≤ s.length := by
  have hw := Ex.words s.length s 0 T (Nat.le_refl _) h
  exact ⟨fun t ht => ⟨(hw t ht).1, few_toks hs h t ht⟩, fun t ht => hw t ht, (toks_le s.length s 0 T (Nat.le_refl _) h).1⟩
/-- a text as structs -/
def ReadT (s : List UInt8) (tys : List Tm.Ty) : Prop := ∃ T, Lex.lexA s 0 = some T ∧ Tm.Tys s.length 0 T tys
def TPOut (w : World) (s : List UInt8) (e : Ending) (w' : World) : Prop :=
  Below w.heap.size w w' ∧ ((∃ tys a cap vs, ReadT s tys ∧ e = .returned (.tuple #[.slice a (List.length tys) cap, .nilIface]) ∧ Owns w' w.heap.size 33 3 a (List.length tys) cap vs ∧ Tm.EncT w' w.heap.size tys vs) ∨ ((∀ tys, ¬ ReadT s tys) ∧ ∃ g : Nat, e = .returned (.tuple #[.slice none 0 0, .iface 109 (.pointer (some ⟨g, 0, none⟩))])))
theorem TP_any (s : List UInt8) (w : World) (hs : s.length ≤ 3000) (hB : Base w) : Calls Tryz.prog 8 #[.string (bstr s)] w (TPOut w s) := by
  cases h : Lex.lexA s 0 with
  | none =>
    refine (TParse_lexbad s w hs hB.mks h).mono ?_
    rintro e w' ⟨⟨g, h1⟩, h2⟩
    exact ⟨h2, .inr ⟨fun tys ⟨T, h3, _⟩ => (by rw [h] at h3; cases h3), g, h1⟩⟩
  | some T =>
    refine (TParse_any s T w hs hB.mks hB.env h (toks_lex hs h).1).mono ?_
    rintro e w' ⟨h1, ⟨tys, a, cap, vs, h2, h3, h4, h5⟩ | ⟨h2, g, n, p, h3, h4⟩⟩
    · exact ⟨h1, .inl ⟨tys, a, cap, vs, ⟨T, h, h2⟩, h3, h4, h5⟩⟩
    · exact ⟨h1, .inr ⟨fun tys ⟨T', h5, h6⟩ => by rw [h] at h5; cases h5; exact h2 tys h6, g, h3⟩⟩
theorem ReadT.det {s : List UInt8} {l m : List Tm.Ty} (h : ReadT s l) (h' : ReadT s m) : l = m := by
  obtain ⟨T, h1, h2⟩ := h
  obtain ⟨T', h3, h4⟩ := h'
  rw [h1] at h3
  cases h3
  exact h2.det m h4
end Go.Proofs.YtlpkebngehmimaaGreatDoor
end
section
/- The template 'box' of the laws. -/
namespace Go.Proofs.YtlpkebngehmimaaGreatDoor
set_option linter.unusedVariables false
set_option linter.unusedSimpArgs false
namespace Tm
open Ex
def boxTy : List Ty := [
  ⟨[112, 97, 105, 114], 0, .cons ⟨0, .scalar [117, 56], [110], none, .size [115]⟩ (.cons ⟨0, .bytes, [115], some (.name 0 [110]), .none⟩ .nil)⟩,
  ⟨[98, 111, 120], 0, .cons ⟨0, .scalar [117, 49, 54, 98, 101], [107, 105, 110, 100], none, .none⟩ (.cons ⟨0, .scalar [117, 56], [109, 97, 110, 121], none, .count [108]⟩ (.cons ⟨0, .struct [112, 97, 105, 114], [108], some (.name 0 [109, 97, 110, 121]), .none⟩
    (.when 0 (.bin 0 [61, 61] (.name 0 [107, 105, 110, 100]) (.num 0 1)) (.cons ⟨0, .scalar [105, 56], [109, 111, 114, 101], none, .none⟩ .nil) (.cons ⟨0, .scalar [117, 51, 50, 108, 101], [115, 117, 109], none, .check [107, 105, 110, 100] [108]⟩ .nil))))⟩]
theorem box_chk : chk [] boxTy = none := by decide +kernel
theorem nm_ok {w : Wd} (h : w ≠ [] ∧ (∀ c ∈ w, Lex.word c = true) ∧ nameB w = true) : NameOk w := ⟨⟨h.1, h.2.1⟩, h.2.2⟩
theorem box_names : ∀ w ∈ ([[112, 97, 105, 114], [110], [115], [98, 111, 120], [107, 105, 110, 100], [109, 97, 110, 121], [108], [109, 111, 114, 101], [115, 117, 109]] : List Wd), w ≠ [] ∧ (∀ c ∈ w, Lex.word c = true) ∧ nameB w = true := by decide +kernel
theorem fineX_name (s : Wd) (hs : s ≠ [] ∧ (∀ c ∈ s, Lex.word c = true) ∧ s.length ≤ 12 ∧ ∃ c r, s = c :: r ∧ Lex.letter c.toNat = true) : FineX (.name 0 s) := by
  obtain ⟨h1, h2, h3, c, r, h4, h5⟩ := hs
  exact ⟨⟨h1, h3, h2, c, r, h4, h5⟩, by unfold deepAt; omega⟩
theorem nk (w : Wd) (h : w ∈ ([[112, 97, 105, 114], [110], [115], [98, 111, 120], [107, 105, 110, 100], [109, 97, 110, 121], [108], [109, 111, 114, 101], [115, 117, 109]] : List Wd)) : NameOk w := nm_ok (box_names w h)
theorem fx_n : FineX (.name 0 [110]) := fineX_name _ ⟨by decide, by decide, by decide, 110, [], rfl, by decide⟩
theorem fx_many : FineX (.name 0 [109, 97, 110, 121]) := fineX_name _ ⟨by decide, by decide, by decide, 109, _, rfl, by decide⟩
theorem fx_cond : FineX (.bin 0 [61, 61] (.name 0 [107, 105, 110, 100]) (.num 0 1)) := by
  refine ⟨⟨by decide, (fineX_name [107, 105, 110, 100] ⟨by decide, by decide, by decide, 107, _, rfl, by decide⟩).1, Ex.num_ok (Num.dec 1) 1 (Num.numOf_dec 1 (by decide))⟩, by decide⟩
theorem fk (w : Wd) (h : (kindOf w).isSome = true) : FineK (.scalar w) := h
theorem box_fine : ∀ t ∈ boxTy, FineT t := by
  intro t ht
  unfold boxTy at ht
  rcases List.mem_cons.1 ht with rfl | ht
  · refine ⟨nk _ (by simp), ⟨fk _ (by decide), nk _ (by simp), fun c hc => (by cases hc), nk _ (by simp), fun h => (by cases h), fun _ => ⟨_, rfl⟩⟩, ⟨trivial, nk _ (by simp), fun c hc => ?_, trivial, fun _ h => (by cases h), fun h => absurd rfl h⟩, trivial⟩
    cases hc; exact ⟨fx_n, rfl⟩
  · rcases List.mem_cons.1 ht with rfl | ht
    · refine ⟨nk _ (by simp), ⟨fk _ (by decide), nk _ (by simp), fun c hc => (by cases hc), trivial, fun h => (by cases h), fun h => absurd rfl h⟩, ⟨fk _ (by decide), nk _ (by simp), fun c hc => (by cases hc), nk _ (by simp), fun h => (by cases h), fun _ => ⟨_, rfl⟩⟩, ⟨nk _ (by simp), nk _ (by simp), fun c hc => ?_, trivial, fun h => (by cases h), fun h => absurd rfl h⟩, fx_cond, ⟨⟨fk _ (by decide), nk _ (by simp), fun c hc => (by cases hc), trivial, fun h => (by cases h), fun h => absurd rfl h⟩, trivial⟩, ⟨fk _ (by decide), nk _ (by simp), fun c hc => (by cases hc), ⟨nk _ (by simp), nk _ (by simp)⟩, fun h => (by cases h), fun _ => ⟨_, rfl⟩⟩, trivial⟩
      cases hc; exact ⟨fx_many, rfl⟩
    · cases ht
theorem box_fit : ∀ t ∈ boxTy, FineT t ∧ Fit 1 0 t.items := by
  intro t ht
  refine ⟨box_fine t ht, ?_⟩
  unfold boxTy at ht
  rcases List.mem_cons.1 ht with rfl | ht
  · simp [Fit]
  · rcases List.mem_cons.1 ht with rfl | ht
    · simp [Fit]
    · cases ht
def boxLit : Wd := [115, 116, 114, 117, 99, 116, 32, 112, 97, 105, 114, 32, 123, 10, 32, 32, 117, 56, 32, 110, 32, 61, 32, 115, 105, 122, 101, 32, 115, 59, 10, 32, 32, 98, 121, 116, 101, 115, 32, 115, 91, 110, 93, 59, 10, 125, 10, 115, 116, 114, 117, 99, 116, 32, 98, 111, 120, 32, 123, 10, 32, 32, 117, 49, 54, 98, 101, 32, 107, 105, 110, 100, 59, 10, 32, 32, 117, 56, 32, 109, 97, 110, 121, 32, 61, 32, 99, 111, 117, 110, 116, 32, 108, 59, 10, 32, 32, 112, 97, 105, 114, 32, 108, 91, 109, 97, 110, 121, 93, 59, 10, 32, 32, 119, 104, 101, 110, 32, 107, 105, 110, 100, 32, 61, 61, 32, 49, 32, 123, 10, 32, 32, 32, 32, 105, 56, 32, 109, 111, 114, 101, 59, 10, 32, 32, 125, 10, 32, 32, 117, 51, 50, 108, 101, 32, 115, 117, 109, 32, 61, 32, 99, 104, 101, 99, 107, 32, 107, 105, 110, 100, 32, 108, 59, 10, 125, 10]
theorem box_pr : prTs boxTy = [115, 116, 114, 117, 99, 116, 32, 112, 97, 105, 114, 32, 123, 10, 32, 32, 117, 56, 32, 110, 32, 61, 32, 115, 105, 122, 101, 32, 115, 59, 10, 32, 32, 98, 121, 116, 101, 115, 32, 115, 91, 110, 93, 59, 10, 125, 10, 115, 116, 114, 117, 99, 116, 32, 98, 111, 120, 32, 123, 10, 32, 32, 117, 49, 54, 98, 101, 32, 107, 105, 110, 100, 59, 10, 32, 32, 117, 56, 32, 109, 97, 110, 121, 32, 61, 32, 99, 111, 117, 110, 116, 32, 108, 59, 10, 32, 32, 112, 97, 105, 114, 32, 108, 91, 109, 97, 110, 121, 93, 59, 10, 32, 32, 119, 104, 101, 110, 32, 107, 105, 110, 100, 32, 61, 61, 32, 49, 32, 123, 10, 32, 32, 32, 32, 105, 56, 32, 109, 111, 114, 101, 59, 10, 32, 32, 125, 10, 32, 32, 117, 51, 50, 108, 101, 32, 115, 117, 109, 32, 61, 32, 99, 104, 101, 99, 107, 32, 107, 105, 110, 100, 32, 108, 59, 10, 125, 10] := by decide +kernel
theorem box_len : (prTs boxTy).length = 177 := by decide +kernel
/-- the tokens of the text are read -/
theorem box_read {T : List Tok} (h : Lex.lexA (prTs boxTy) 0 = some T) (E : Nat) : ∃ L, SameTs boxTy L ∧ Tys E 0 T L := by
  have h1 := texts_prTs boxTy box_fine
  unfold texts at h1
  rw [h] at h1
  have h2 : T.map Prod.fst = ptTs boxTy := by simpa using h1
  exact Tys.make (by decide) box_fit T h2
theorem box_lex : ∃ T, Lex.lexA (prTs boxTy) 0 = some T := by
  have h1 := texts_prTs boxTy box_fine
  unfold texts at h1
  cases h : Lex.lexA (prTs boxTy) 0 with
  | none => rw [h] at h1; cases h1
  | some T => exact ⟨T, rfl⟩
end Tm
end Go.Proofs.YtlpkebngehmimaaGreatDoor
end
section
/- The fact boxed. -/
namespace Go.Proofs.YtlpkebngehmimaaGreatDoor
open Go.RowKit
set_option linter.unusedVariables false
set_option linter.unusedSimpArgs false
open Rd
/-- structs that were read lie in memory -/
structure TysM (w : World) (B : Nat) (s : List UInt8) (tys : List Tm.Ty) (a : Option Addr) (cap : Nat) (vs : List Value) : Prop where
  rd : ReadT s tys
  own : Owns w B 33 3 a tys.length cap vs
  enc : Tm.EncT w B tys vs
  lv : LevelsAt w B
  le : B ≤ w.heap.size
theorem TysM.up {w w' : World} {B : Nat} {s : List UInt8} {tys : List Tm.Ty} {a : Option Addr} {cap : Nat} {vs : List Value} (h : TysM w B s tys a cap vs) (hb : Below w.heap.size w w') : TysM w' B s tys a cap vs :=
  ⟨h.rd, h.own.below hb (Nat.le_refl _), h.enc.grown (below_grown hb (some B)), levels_below h.lv hb h.le, Nat.le_trans h.le hb.size⟩
theorem TysM.fine {w : World} {B : Nat} {s : List UInt8} {tys : List Tm.Ty} {a : Option Addr} {cap : Nat} {vs : List Value} (h : TysM w B s tys a cap vs) (hs : s.length ≤ 3000) : (∀ t ∈ tys, Tm.FineT t) ∧ (∀ t ∈ tys, Tm.FineT t ∧ Tm.FewX t.items ∧ Tm.Its.sz t.items ≤ 100000) ∧ (Tm.prTs tys).length ≤ 64 * s.length ∧ tys.length ≤ 8 := by
  obtain ⟨T, h1, h2⟩ := h.rd
  obtain ⟨_, h4, h5⟩ := toks_lex hs h1
  have h6 := h2.fine h4
  obtain ⟨h7, h8⟩ := Tm.tys_len h2 h4 (by omega)
  have h9 := h2.few
  exact ⟨h6, fun t ht => ⟨h6 t ht, h8 t ht⟩, by omega, by omega⟩
/-- Print of what was read -/
theorem print_read {w : World} {B : Nat} {s : List UInt8} {tys : List Tm.Ty} {a : Option Addr} {cap : Nat} {vs : List Value} (h : TysM w B s tys a cap vs) (hs : s.length ≤ 3000) (hB : Base w) :
    Calls Tryz.prog 19 #[.slice a tys.length cap] w fun e w' => e = .returned (.string (bstr (Tm.prTs tys))) ∧ Below w.heap.size w w' := by
  obtain ⟨h1, _, h3, h4⟩ := h.fine hs
  exact Print_tys tys h1 w B cap B a vs h.own h.enc h.lv h.le (by omega) (by omega)
/-- Check of what was read -/
theorem check_read {w : World} {B : Nat} {s : List UInt8} {tys : List Tm.Ty} {a : Option Addr} {cap : Nat} {vs : List Value} (h : TysM w B s tys a cap vs) (hs : s.length ≤ 3000) :
    Calls Tryz.prog 12 #[.slice a tys.length cap] w (CheckOut w (Tm.chk [] tys)) := by
  obtain ⟨_, h2, _, h4⟩ := h.fine hs
  exact Check_any tys w B cap B a vs h.own h.enc h2 (by omega)
/-- Parse, told so -/
theorem parse_read (s : List UInt8) (w : World) (hs : s.length ≤ 3000) (hB : Base w) : Calls Tryz.prog 8 #[.string (bstr s)] w fun e w' => Below w.heap.size w w' ∧ ((∃ tys a cap vs, TysM w' w.heap.size s tys a cap vs ∧ e = .returned (.tuple #[.slice a (List.length tys) cap, .nilIface])) ∨ ((∀ tys, ¬ ReadT s tys) ∧ ∃ g : Nat, e = .returned (.tuple #[.slice none 0 0, .iface 109 (.pointer (some ⟨g, 0, none⟩))]))) := by
  refine (TP_any s w hs hB).mono ?_
  rintro e w' ⟨h1, ⟨tys, a, cap, vs, h2, h3, h4, h5⟩ | h2⟩
  · exact ⟨h1, .inl ⟨tys, a, cap, vs, ⟨h2, h4, h5, levels_below hB.env.lv h1 (Nat.le_refl _), h1.size⟩, h3⟩⟩
  · exact ⟨h1, .inr h2⟩
set_option maxRecDepth 100000 in
set_option maxHeartbeats 4000000 in
theorem boxed_any (w : World) (hB : Base w) : Calls Tryz.prog 6 #[] w fun e w' => Below w.heap.size w w' ∧ ∃ tys a cap vs, Tm.SameTs Tm.boxTy tys ∧ TysM w' w.heap.size (Tm.prTs Tm.boxTy) tys a cap vs ∧ e = .returned (.tuple #[.slice a 2 cap, .bool true]) := by
  have hbl : (Tm.prTs Tm.boxTy).length ≤ 3000 := by rw [Tm.box_len]; omega
  have hp := parse_read (Tm.prTs Tm.boxTy) w hbl hB
  obtain ⟨T, hT⟩ := Tm.box_lex
  obtain ⟨L, hL1, hL2⟩ := Tm.box_read hT (Tm.prTs Tm.boxTy).length
  have hrd : ReadT (Tm.prTs Tm.boxTy) L := ⟨T, hT, hL2⟩
  have hprL : Tm.prTs L = Tm.prTs Tm.boxTy := (Tm.same_prTs hL1).symm
  have hchk : Tm.chk [] L = none := by rw [Tm.chk_same hL1 Tm.box_fine]; exact Tm.box_chk
  have hlen : L.length = 2 := by
    have : ∀ {l m : List Tm.Ty}, Tm.SameTs l m → l.length = m.length := by
      intro l m h
      induction h with
      | nil => rfl
      | cons _ _ ih => simp [ih]
    exact (this hL1).symm
  have HL1 := Lib.hid hL1; have HRD := Lib.hid hrd; have HLEN := Lib.hid hlen; have HCHK := Lib.hid hchk; have HBL := Lib.hid hbl; have HPR := Lib.hid hprL
  rw [Tm.box_pr] at hp
  have HP := Lib.hid hp
  have HB := Lib.hid hB
  clear hp hB hL1 hL2 hrd hprL hchk hlen hbl hT
  go_enter Tryz.func6, Tryz.ntmps6
  go_wp2_with fail
  refine HP.out.mono ?_
  rintro e w1 ⟨hb1, ⟨tys, a, cap, vs, hm, rfl⟩ | ⟨hno, _⟩⟩
  · have hrd' := hm.rd
    rw [← Tm.box_pr] at hrd' hm
    obtain rfl := hrd'.det HRD.out
    have HM := Lib.hid hm; have HB1 := Lib.hid hb1
    have HCK := Lib.hid (check_read hm HBL.out)
    have h2 := HLEN.out
    clear hm hb1 hrd' HP
    generalize hnn : tys.length = nn at *
    subst h2
    go_wp2_with fail
    refine HCK.out.mono ?_
    intro e w2 hck
    unfold CheckOut at hck
    rw [HCHK.out] at hck
    obtain ⟨hb2, rfl⟩ := hck
    have HM2 := Lib.hid (HM.out.up hb2)
    have HB2 := Lib.hid (HB1.out.trans (hb2.mono HB1.out.size))
    have hpr := print_read HM2.out HBL.out (HB.out.up HB2.out)
    rw [hnn, HPR.out] at hpr
    obtain ⟨P, hP⟩ : ∃ P, P = Tm.prTs Tm.boxTy := ⟨_, rfl⟩
    rw [← hP] at hpr
    have q1 : (P == [115, 116, 114, 117, 99, 116, 32, 112, 97, 105, 114, 32, 123, 10, 32, 32, 117, 56, 32, 110, 32, 61, 32, 115, 105, 122, 101, 32, 115, 59, 10, 32, 32, 98, 121, 116, 101, 115, 32, 115, 91, 110, 93, 59, 10, 125, 10, 115, 116, 114, 117, 99, 116, 32, 98, 111, 120, 32, 123, 10, 32, 32, 117, 49, 54, 98, 101, 32, 107, 105, 110, 100, 59, 10, 32, 32, 117, 56, 32, 109, 97, 110, 121, 32, 61, 32, 99, 111, 117, 110, 116, 32, 108, 59, 10, 32, 32, 112, 97, 105, 114, 32, 108, 91, 109, 97, 110, 121, 93, 59, 10, 32, 32, 119, 104, 101, 110, 32, 107, 105, 110, 100, 32, 61, 61, 32, 49, 32, 123, 10, 32, 32, 32, 32, 105, 56, 32, 109, 111, 114, 101, 59, 10, 32, 32, 125, 10, 32, 32, 117, 51, 50, 108, 101, 32, 115, 117, 109, 32, 61, 32, 99, 104, 101, 99, 107, 32, 107, 105, 110, 100, 32, 108, 59, 10, 125, 10]) = true := by rw [beq_iff_eq, hP, Tm.box_pr]
    have HPP := Lib.hid hpr
    clear hpr hb2 hP HCK
    go_wp2_with fail
    refine HPP.out.mono ?_
    rintro e w3 ⟨rfl, hb3⟩
    have HM3 := Lib.hid (HM2.out.up hb3)
    have HB3 := Lib.hid (HB2.out.trans (hb3.mono HB2.out.size))
    clear hb3
    go_wp2_with fail
    go_ret2
    exact ⟨HB3.out, tys, a, cap, vs, HL1.out, HM3.out, rfl⟩
  · rw [← Tm.box_pr] at hno
    exact absurd HRD.out (hno _)
end Go.Proofs.YtlpkebngehmimaaGreatDoor
end
section
/- The digits of a number, one by one from the end, in plain words. -/
namespace Go.Proofs.YtlpkebngehmimaaGreatDoor
set_option linter.unusedVariables false
set_option linter.unusedSimpArgs false
namespace Num
open Digits
def DecI (n j m : Nat) (t : List UInt8) : Prop := m = n / 10 ^ j ∧ t = ds 10 n j ∧ (j ≤ 1 ∨ 10 ^ (j - 1) ≤ n)
theorem DecI.start (n : Nat) : DecI n 0 n [] := ⟨by simp, rfl, by omega⟩
theorem DecI.step {n j m : Nat} {t : List UInt8} (hn : n < 9223372036854775808) (h : DecI n j m t) (hlen : t.length = j) (hm : 0 < m ∨ t = []) : DecI n (j + 1) (m / 10) (UInt8.ofNat (48 + m % 10) :: t) ∧ j + 1 ≤ 30 := by
  obtain ⟨rfl, rfl, h3⟩ := h
  have hp : 0 < 10 ^ j := Nat.pow_pos (by omega)
  have hle : j = 0 ∨ 10 ^ j ≤ n := by
    rcases hm with h | h
    · exact .inr ((Nat.div_pos_iff.1 h).2)
    · left
      rw [h] at hlen
      exact hlen.symm
  refine ⟨⟨by rw [Nat.div_div_eq_div_mul, Nat.pow_succ], ?_, ?_⟩, ?_⟩
  · rw [ds_succ']
    congr 1
    have : n / 10 ^ j % 10 < 10 := Nat.mod_lt _ (by omega)
    unfold fig dg
    rw [if_pos this]
  · rcases hle with rfl | h
    · omega
    · exact .inr h
  · rcases hle with rfl | h
    · omega
    · by_cases hj : j ≤ 29
      · omega
      · have : 10 ^ 29 ≤ 10 ^ j := Nat.pow_le_pow_right (by omega) (by omega)
        have e : (10 : Nat) ^ 29 = 100000000000000000000000000000 := by decide
        omega
theorem DecI.done {n j : Nat} {t : List UInt8} (hn : n < 9223372036854775808) (h : DecI n j 0 t) (hlen : t.length = j) (ht : t ≠ []) : t = dec n := by
  obtain ⟨h1, rfl, h3⟩ := h
  have hj : j ≠ 0 := by
    rintro rfl
    exact ht rfl
  have hw : Wide 10 n 1 j := by
    refine ⟨by omega, (div_zero_iff 10 n j (by omega)).1 h1.symm, fun k hk hnk => ?_⟩
    rcases h3 with h3 | h3
    · omega
    · have : 10 ^ (j - 1) < 10 ^ k := by omega
      have := (Nat.pow_lt_pow_iff_right (by omega : 1 < 10)).1 this
      omega
  unfold dec
  rw [hw.unique (wdt_wide n (by omega))]
end Num
end Go.Proofs.YtlpkebngehmimaaGreatDoor
end
section
/- The laws' own decimal: a number's digits. -/
namespace Go.Proofs.YtlpkebngehmimaaGreatDoor
open Go.RowKit
set_option linter.unusedVariables false
set_option linter.unusedSimpArgs false
set_option maxRecDepth 100000 in
set_option maxHeartbeats 1000000 in
theorem decimal_any (n : Nat) (w : World) (hn : n < 9223372036854775808) :
    Calls Tryz.prog 10 #[.int .i64 (n : Int)] w fun e w' => e = .returned (.string (bstr (Num.dec n))) ∧ Below w.heap.size w w' := by
  go_enter Tryz.func10, Tryz.ntmps10
  go_wp2_with fail
  go_loopw [0, 3] (fun v0 v3 wr => ∃ (j m : Nat) (t : List UInt8), j ≤ 30 ∧ v0 = .int .i64 (m : Int) ∧ v3 = .string (bstr t) ∧ t.length = j ∧ m ≤ n ∧ Hid (Num.DecI n j m t) ∧ Below w.heap.size w wr) (fun v0 v3 wr => (intOf v0).toNat + (match v3 with | .string s => if s.size = 0 then 1 else 0 | _ => 0))
  case atStart => exact ⟨0, n, [], by omega, rfl, rfl, rfl, Nat.le_refl _, Lib.hid (Num.DecI.start n), Below.refl _ _⟩
  case round =>
    obtain ⟨j, m, t, hj, rfl, rfl, hlen, hmn, HD, hb⟩ := hrel
    obtain ⟨r, hr⟩ : ∃ r, r = m % 10 := ⟨_, rfl⟩
    obtain ⟨q, hq⟩ : ∃ q, q = m / 10 := ⟨_, rfl⟩
    have hr10 : r < 10 := by omega
    have hqm : q ≤ m := by omega
    have hm9 : (m : Int) % 10 = (r : Int) := by omega
    have hm10 : (m : Int) / 10 = (q : Int) := by omega
    have hstep := fun hm => HD.out.step hn hlen hm
    rw [← hr, ← hq] at hstep
    have HS := Lib.hid hstep; clear hstep
    have hend : m = 0 → t ≠ [] → t = Num.dec n := fun h0 ht => by subst h0; exact HD.out.done hn hlen ht
    have HE := Lib.hid hend; clear hend
    have HQ := Lib.hid hq; clear hq hr
    have hu8 : IntKind.u8.wrap (48 + (r : Int)) = 48 + (r : Int) := by rw [IntKind.wrap_u8]; omega
    have hd : (UInt8.ofNat (48 + r)).toNat = 48 + r := by simp; omega
    have hrow := RowAt.new wr 5 #[.int .u8 (48 + (r : Int))]
    have hbv : (#[.int .u8 (48 + (r : Int))] : Array Value).toList = bvals [UInt8.ofNat (48 + r)] := by
      show [Value.int .u8 (48 + (r : Int))] = [Value.int .u8 (((UInt8.ofNat (48 + r)).toNat : Nat) : Int)]
      rw [hd]; rfl
    rw [hbv] at hrow
    have hconv := run_string_of (P := Tryz.prog) 64 5 9 (by kernel_rfl) (by kernel_rfl) (by kernel_rfl) hrow 1 1 rfl
    clear hrow hbv hd
    generalize UInt8.ofNat (48 + r) = d at *
    have hbA := hb.alloc hb.size (.cells #[.int .u8 (48 + (r : Int))] 5)
    have HBA := Lib.hid hbA; clear hbA
    cases t with
    | nil =>
      by_cases h0 : 0 < m
      all_goals
        have hst := HS.out (.inr rfl)
        have HST := Lib.hid hst; clear hst
        go_wp2_with fail
        go_roundw
        case rel => exact ⟨j + 1, q, [d], HST.out.2, rfl, rfl, by simp at hlen ⊢; omega, by omega, Lib.hid HST.out.1, HBA.out⟩
        case measure =>
          have := HQ.out
          simp [intOf, bstr, ByteArray.size]
          omega
    | cons c t =>
      have hne : (bstr (c :: t)).toList.isEmpty = false := by rw [bstr_toList]; rfl
      by_cases h0 : 0 < m
      · have hst := HS.out (.inl h0)
        have HST := Lib.hid hst; clear hst
        have hlen2 : ¬ 9223372036854775807 < 1 + (t.length + 1) := by simp at hlen; omega
        go_wp2_with fail
        go_roundw
        case rel => exact ⟨j + 1, q, d :: c :: t, HST.out.2, rfl, rfl, by simp at hlen ⊢; omega, by omega, Lib.hid HST.out.1, HBA.out⟩
        case measure =>
          have := HQ.out
          simp [intOf, bstr, ByteArray.size]
          omega
      · go_wp2_with fail
        go_ret
        exact ⟨ret_str (congrArg bstr (HE.out (by omega) (by simp))), hb⟩
end Go.Proofs.YtlpkebngehmimaaGreatDoor
end
