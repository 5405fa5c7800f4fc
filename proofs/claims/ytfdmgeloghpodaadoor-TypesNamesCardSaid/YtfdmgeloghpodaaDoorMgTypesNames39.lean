/- strings.Repeat of two blanks. -/
import Derived.Shelf.Strings.Builder1
import Derived.Shelf.Strings.Builder2
import Derived.Shelf.Strings.BuilderF
import Derived.Shelf.Strings.BuilderK
import Derived.Shelf.Strings.Builder2Cap
import Derived.Shelf.Strings.Prefix
import Derived.Shelf.Bits.Mul64
import Derived.Shelf.Strings.Repeat
import Derived.Shelf.Strings.BuilderCap
import Derived.Shelf.Slices.Turned
import Derived.Test.YtfdmgeloghpodaaDoorProg
import Derived.Test.YtfdmgeloghpodaaDoorMgTypesNames38
import Derived.Test.YtfdmgeloghpodaaDoorMgTypesNames34
section
/- What types.checker.items holds. -/
namespace Go.Proofs.YtfdmgeloghpodaaDoor
open Go.RowKit
set_option linter.unusedVariables false
set_option linter.unusedSimpArgs false
open Rd
theorem zeroInt (w : World) : (zeroValue 3).run Tryd.prog w = .ok (.int .i64 0) w := by kernel_rfl
theorem infoString : (Tryd.prog.info? 9).map (fun i => (i.zero, i.size, i.bytes)) = some (some (.string ByteArray.empty), 1, 16) := by kernel_rfl
abbrev NameSet (w : World) (b : Nat) (S : List Tm.Wd) : Prop := MapN Tryd.prog 9 3 w b S.length S
theorem MapN.block {P : Program} {k e : TypeId} {w : World} {b n : Nat} {S : List (List UInt8)} (h : MapN P k e w b n S) : ∃ es clock, w.heap[b]? = some (.map es clock) := by
  obtain ⟨D, ⟨es, clock, hb, _⟩, _⟩ := h
  exact ⟨es, clock, hb⟩
theorem row_not_map {w : World} {g off : Nat} {e : TypeId} {xs : List Value} (h : RowAt w g off e xs) {b : Nat} (hm : ∃ es clock, w.heap[b]? = some (.map es clock)) : g ≠ b := by
  rintro rfl
  obtain ⟨c, z, h1, _⟩ := h
  obtain ⟨es, cl, h2⟩ := hm
  rw [h1] at h2
  injection h2 with h2
  cases h2
structure ItS (V w : World) (cb tb mb : Nat) (ts ns seen : List Tm.Wd) (sa : Option Addr) (sc : Nat) : Prop where
  bel : Below V.heap.size V w
  box : RowAt w cb 0 69 [.map (some tb), .map (some mb), .slice sa seen.length sc]
  cbV : V.heap.size ≤ cb
  tm : NameSet w tb ts
  nm : NameSet w mb ns
  mbV : V.heap.size ≤ mb
  own : Owns w V.heap.size 9 1 sa seen.length sc (wdVals seen)
  ne : tb ≠ mb
section
variable {V w w' : World} {cb tb mb : Nat} {ts ns seen : List Tm.Wd} {sa : Option Addr} {sc : Nat}
theorem ItS.up (h : ItS V w cb tb mb ts ns seen sa sc) (hb : Below w.heap.size w w') : ItS V w' cb tb mb ts ns seen sa sc :=
  ⟨h.bel.trans (hb.mono h.bel.size), h.box.below hb h.box.lt, h.cbV, h.tm.keep (hb.block tb h.tm.lt), h.nm.keep (hb.block mb h.nm.lt), h.mbV, h.own.below hb (Nat.le_refl _), h.ne⟩
theorem ItS.drewN (h : ItS V w cb tb mb ts ns seen sa sc) (k : Nat) : ItS V (w.drewN k) cb tb mb ts ns seen sa sc := h.up ⟨rfl, rfl, rfl, Nat.le_refl _, fun _ _ => rfl⟩
theorem ItS.drew (h : ItS V w cb tb mb ts ns seen sa sc) : ItS V w.drew cb tb mb ts ns seen sa sc := h.up (Below.refl _ _).drew
theorem ItS.cks (h : ItS V w cb tb mb ts ns seen sa sc) : CkS w cb tb mb sa sc seen := ⟨h.box, h.own.mono (Nat.zero_le _)⟩
theorem ItS.cells (h : ItS V w cb tb mb ts ns seen sa sc) : w.cell? ⟨cb, 0, none⟩ = some (.map (some tb)) ∧ w.cell? ⟨cb, 1, none⟩ = some (.map (some mb)) ∧ w.cell? ⟨cb, 2, none⟩ = some (.slice sa seen.length sc) ∧ w.frozen? ⟨cb, 2, none⟩ = false :=
  ⟨h.box.cell0 0 (by simp), h.box.cell0 1 (by simp), h.box.cell0 2 (by simp), h.box.frozen0 2 (by simp)⟩
/-- a name more -/
theorem ItS.store (h : ItS V w cb tb mb ts ns seen sa sc) {s : Tm.Wd} (hm : MapN Tryd.prog 9 3 w' mb (ns.length + 1) (s :: ns)) (hg : w.grownBy w' (some mb)) : ItS V w' cb tb mb ts (s :: ns) seen sa sc := by
  have k : ∀ b, b < w.heap.size → b ≠ mb → w'.heap[b]? = w.heap[b]? := fun b hb hne => hg.block b hb (fun e => by injection e with e; exact hne e)
  refine ⟨h.bel.grown hg h.bel.size (fun b e => by injection e with e; have := h.mbV; omega), h.box.of_heap (k cb h.box.lt (row_not_map h.box h.nm.block)), h.cbV, h.tm.keep (k tb h.tm.lt h.ne), hm, h.mbV, h.own.keep (fun x hx => ?_), h.ne⟩
  have ho := h.own
  subst hx
  exact k _ ho.lt.2 (row_not_map ho.row.2.2.2.2 h.nm.block)
theorem ItS.sa_ne (h : ItS V w cb tb mb ts ns seen sa sc) : ∀ x, sa = some x → x.block ≠ cb ∧ x.block ≠ tb ∧ x.block ≠ mb := by
  intro x hx
  have ho := h.own
  subst hx
  refine ⟨?_, row_not_map ho.row.2.2.2.2 h.tm.block, row_not_map ho.row.2.2.2.2 h.nm.block⟩
  intro e
  have := (e ▸ ho.row.2.2.2.2 : RowAt w cb 0 9 _).ty h.box
  exact absurd this (by decide)
/-- a name more is seen: the append -/
theorem ItS.pushed (h : ItS V w cb tb mb ts ns seen sa sc) {w4 : World} {a' : Option Addr} {c' : Nat} {x : Tm.Wd} (ho : Owns w4 V.heap.size 9 1 a' (seen.length + 1) c' (wdVals seen ++ [.string (bstr x)])) (hg : w.grownBy w4 (blk sa)) :
    RowAt w4 cb 0 69 [.map (some tb), .map (some mb), .slice sa seen.length sc] ∧ ItS V (w4.setCell ⟨cb, 2, none⟩ (.slice a' (seen.length + 1) c')) cb tb mb ts ns (seen ++ [x]) a' c' := by
  have k : ∀ b, b < w.heap.size → (∀ y, sa = some y → y.block ≠ b) → w4.heap[b]? = w.heap[b]? := fun b hb hne => hg.block b hb (fun e => by
    cases hs : sa with
    | none => rw [hs] at e; simp [blk] at e
    | some y => rw [hs] at e; simp only [blk, Option.map_some] at e; injection e with e; exact hne y hs e.symm)
  have hbox := h.box.of_heap (k cb h.box.lt (fun y hy => (h.sa_ne y hy).1))
  have htm := h.tm.keep (k tb h.tm.lt (fun y hy => (h.sa_ne y hy).2.1))
  have hnm := h.nm.keep (k mb h.nm.lt (fun y hy => (h.sa_ne y hy).2.2))
  have hbel := below_blk h.bel h.own (Nat.le_refl _) h.bel.size hg
  have far : ∀ b, b ≠ cb → (w4.setCell ⟨cb, 2, none⟩ (.slice a' (seen.length + 1) c')).heap[b]? = w4.heap[b]? := fun b hb => Below.heap_setCell w4 ⟨cb, 2, none⟩ _ b hb
  refine ⟨hbox, hbel.setCell (p := ⟨cb, 2, none⟩) h.cbV _, ?_, h.cbV, htm.keep (far tb (fun e => row_not_map hbox htm.block e.symm)), hnm.keep (far mb (fun e => row_not_map hbox hnm.block e.symm)), h.mbV, ?_, h.ne⟩
  · have := hbox.set0 2 (by simp) (.slice a' (seen.length + 1) c')
    rw [List.length_append]
    exact this
  · rw [List.length_append, wdVals_snoc]
    refine ho.keep fun y hy => far y.block ?_
    subst hy
    intro e
    have := (e ▸ ho.row.2.2.2.2 : RowAt w4 cb 0 9 _).ty hbox
    exact absurd this (by decide)
/-- what was seen at the begin alone -/
theorem ItS.cut (h : ItS V w cb tb mb ts ns seen sa sc) (n : Nat) (hn : n ≤ seen.length) : ItS V (w.setCell ⟨cb, 2, none⟩ (.slice sa n sc)) cb tb mb ts ns (seen.take n) sa sc := by
  have far : ∀ b, b ≠ cb → (w.setCell ⟨cb, 2, none⟩ (.slice sa n sc)).heap[b]? = w.heap[b]? := fun b hb => Below.heap_setCell w ⟨cb, 2, none⟩ _ b hb
  have hl : (seen.take n).length = n := by rw [List.length_take]; omega
  refine ⟨h.bel.setCell (p := ⟨cb, 2, none⟩) h.cbV _, ?_, h.cbV, h.tm.keep (far tb (fun e => row_not_map h.box h.tm.block e.symm)), h.nm.keep (far mb (fun e => row_not_map h.box h.nm.block e.symm)), h.mbV, ?_, h.ne⟩
  · have := h.box.set0 2 (by simp) (.slice sa n sc)
    rw [hl]
    exact this
  · have := h.own.cutTo n hn
    rw [hl, ← wdVals_take]
    rw [Nat.mul_one] at this
    exact this.keep fun y hy => far y.block (fun e => (h.sa_ne y hy).1 e)
end
namespace Tm
def itemsE (ts : List Wd) (l : Its) (ns seen : List Wd) : Res := match chkL ts l ns seen with
  | .bad e => .bad e
  | .ok ns' _ => match rulesE l.row with
    | some e => .bad e
    | none => .ok ns' seen
/-- each expression has not too many names -/
def FewX : Its → Prop
  | .nil => True
  | .cons h l => (namesO h.cnt).length ≤ 100000 ∧ FewX l
  | .when _ c b l => (namesX c).length ≤ 100000 ∧ FewX b ∧ FewX l
theorem few_drop : ∀ (i : Nat) (l : Its), FewX l → FewX (l.drop i)
  | 0, l, h => h
  | i + 1, .nil, h => h
  | i + 1, .cons _ l, h => few_drop i l h.2
  | i + 1, .when _ _ _ l, h => few_drop i l h.2.2
theorem chkL_len {ts : List Wd} : ∀ {l : Its} {ns seen ns' seen' : List Wd}, chkL ts l ns seen = .ok ns' seen' → ns'.length ≤ ns.length + l.sz
  | .nil, ns, seen, ns', seen', h => by
    unfold chkL at h
    cases h
    simp [Its.sz]
  | .cons a l, ns, seen, ns', seen', h => by
    unfold chkL at h
    split at h
    · cases h
    · split at h
      · cases h
      · split at h
        · have := chkL_len h
          simp only [List.length_cons] at this
          simp only [Its.sz]
          omega
        · cases h
  | .when _ c b l, ns, seen, ns', seen', h => by
    unfold chkL at h
    split at h
    · cases hb : chkL ts b ns seen with
      | bad e => rw [hb] at h; cases h
      | ok n2 s2 =>
        rw [hb] at h
        simp only [] at h
        have h1 := chkL_len hb
        split at h
        · cases h
        · have h2 := chkL_len h
          simp only [Its.sz]
          omega
    · cases h
theorem chkL_when (ts : List Wd) (a : Nat) (c : Ex.X) (b l : Its) (ns seen : List Wd) : chkL ts (.when a c b l) ns seen = if asks seen (namesX c) then (match itemsE ts b ns seen with | .bad e => .bad e | .ok ns' _ => chkL ts l ns' seen) else .bad 5 := by
  rw [chkL]
  split
  · unfold itemsE
    cases chkL ts b ns seen with
    | bad e => rfl
    | ok n2 s2 =>
      simp only []
      cases rulesE b.row <;> rfl
  · rfl
end Tm
def ItemsOut (V : World) (cb tb mb : Nat) (ts seen : List Tm.Wd) (r : Tm.Res) (e : Ending) (w' : World) : Prop := match r with
  | .bad n => Below V.heap.size V w' ∧ ∃ g p : Nat, e = thrownT g ∧ RowAt w' g 0 75 [.int .i64 (n : Nat), .int .i64 (p : Nat)]
  | .ok ns' _ => e = .returned (.tuple #[]) ∧ ∃ sa sc, ItS V w' cb tb mb ts ns' seen sa sc
def ItemsC (l : Tm.Its) : Prop := ∀ (V w : World) (rb cap cb tb mb sc : Nat) (ga sa : Option Addr) (bs : List Value) (ts ns seen : List Tm.Wd), ItV V w rb l ga cap bs → ItS V w cb tb mb ts ns seen sa sc → ns.length + Tm.Its.sz l ≤ 100000 → seen.length + Tm.Its.sz l ≤ 100000 → Tm.Its.len l ≤ 100000 → Tm.FineI l → Tm.FewX l →
  Calls Tryd.prog 28 #[.pointer (some ⟨cb, 0, none⟩), .slice ga (Tm.Its.len l) cap] w (ItemsOut V cb tb mb ts seen (Tm.itemsE ts l ns seen))
end Go.Proofs.YtfdmgeloghpodaaDoor
end
section
/-
  DERIVED: THE SHELF's CONTRACTS AT THIS DUMP, IN PLAIN WORDS (tools/lay-plain.mjs out of 'TrydShelfTmLay.lean', which tools/lay-shelf.mjs wrote): THE SAME DECLARATIONS UNDER THE SAME NAMES: 'import', 'namespace', 'open', 'def', 'theorem' AND NOTHING ELSE: no command of the shelf's: FOR A HAND-IN. Each laying: the table of numbers ('.._ren') and one theorem, a field a fact of the dump's own or the kernel's comparison; each contract: ONE APPLICATION.
-/
namespace Go.Proofs
open Go.Shelf
def Tryd.lays105_ren : Go.Shelf.Ren := ⟨fun | 105 => 38 | 212 => 53 | 99 => 44 | 165 => 54 | 166 => 23 | 170 => 55 | 169 => 25 | 263 => 69 | 264 => 70 | 206 => 63 | 240 => 37 | 241 => 71 | 276 => 52 | 277 => 79 | n => n, fun | 9 => 9 | 3 => 3 | 4 => 4 | 20 => 20 | 0 => 0 | 46 => 112 | 109 => 113 | 5 => 5 | 72 => 58 | 76 => 59 | 51 => 144 | 146 => 145 | 53 => 120 | 148 => 147 | 70 => 55 | 37 => 56 | 75 => 27 | 127 => 92 | 164 => 95 | 80 => 46 | n => n, fun | n => n⟩
theorem Tryd.lays105 : Go.Proofs.Lays.n105 Tryd.prog Tryd.lays105_ren := {
  mixed := by kernel_rfl
  f99 := Tryd.func44.trans (congrArg some (by kernel_rfl))
  f105 := Tryd.func38.trans (congrArg some (by kernel_rfl))
  f165 := Tryd.func54.trans (congrArg some (by kernel_rfl))
  f166 := Tryd.func23.trans (congrArg some (by kernel_rfl))
  f169 := Tryd.func25.trans (congrArg some (by kernel_rfl))
  f170 := Tryd.func55.trans (congrArg some (by kernel_rfl))
  f206 := Tryd.func63.trans (congrArg some (by kernel_rfl))
  f212 := Tryd.func53.trans (congrArg some (by kernel_rfl))
  f240 := Tryd.func37.trans (congrArg some (by kernel_rfl))
  f241 := Tryd.func71.trans (congrArg some (by kernel_rfl))
  f263 := Tryd.func69.trans (congrArg some (by kernel_rfl))
  f264 := Tryd.func70.trans (congrArg some (by kernel_rfl))
  f276 := Tryd.func52.trans (congrArg some (by kernel_rfl))
  f277 := Tryd.func79.trans (congrArg some (by kernel_rfl))
  t0 := Tryd.underlying0
  a0 := Tryd.isAgg0
  z0 := Tryd.sizeOf0
  v0 := Tryd.zeroValue0
  t3 := Tryd.underlying3
  a3 := Tryd.isAgg3
  z3 := Tryd.sizeOf3
  v3 := Tryd.zeroValue3
  t4 := Tryd.underlying4
  a4 := Tryd.isAgg4
  z4 := Tryd.sizeOf4
  v4 := Tryd.zeroValue4
  t5 := Tryd.underlying5
  a5 := Tryd.isAgg5
  z5 := Tryd.sizeOf5
  v5 := Tryd.zeroValue5
  t9 := Tryd.underlying9
  a9 := Tryd.isAgg9
  z9 := Tryd.sizeOf9
  v9 := Tryd.zeroValue9
  t20 := Tryd.underlying20
  a20 := Tryd.isAgg20
  z20 := Tryd.sizeOf20
  v20 := Tryd.zeroValue20
  t37 := Tryd.underlying56
  a37 := Tryd.isAgg56
  z37 := Tryd.sizeOf56
  v37 := Tryd.zeroValue56
  t46 := Tryd.underlying112
  a46 := Tryd.isAgg112
  z46 := Tryd.sizeOf112
  v46 := Tryd.zeroValue112
  t51 := Tryd.underlying144
  a51 := Tryd.isAgg144
  z51 := Tryd.sizeOf144
  v51 := Tryd.zeroValue144
  t53 := Tryd.underlying120
  a53 := Tryd.isAgg120
  z53 := Tryd.sizeOf120
  v53 := Tryd.zeroValue120
  t70 := Tryd.underlying55
  a70 := Tryd.isAgg55
  z70 := Tryd.sizeOf55
  v70 := Tryd.zeroValue55
  t72 := Tryd.underlying58
  a72 := Tryd.isAgg58
  z72 := Tryd.sizeOf58
  v72 := Tryd.zeroValue58
  t75 := Tryd.underlying27
  a75 := Tryd.isAgg27
  z75 := Tryd.sizeOf27
  v75 := Tryd.zeroValue27
  t76 := Tryd.underlying59
  a76 := Tryd.isAgg59
  z76 := Tryd.sizeOf59
  v76 := Tryd.zeroValue59
  t109 := Tryd.underlying113
  a109 := Tryd.isAgg113
  z109 := Tryd.sizeOf113
  v109 := Tryd.zeroValue113
  t127 := Tryd.underlying92
  a127 := Tryd.isAgg92
  z127 := Tryd.sizeOf92
  v127 := Tryd.zeroValue92
  t146 := Tryd.underlying145
  a146 := Tryd.isAgg145
  z146 := Tryd.sizeOf145
  v146 := Tryd.zeroValue145
  t148 := Tryd.underlying147
  a148 := Tryd.isAgg147
  z148 := Tryd.sizeOf147
  v148 := Tryd.zeroValue147
  t164 := Tryd.underlying95
  a164 := Tryd.isAgg95
  z164 := Tryd.sizeOf95
  v164 := Tryd.zeroValue95 }
theorem Tryd.Builder_Extra_105 : Builder.Extra Tryd.prog Tryd.lays105_ren := {
  sizeBuilder := by kernel_rfl
  liesBuilder := by kernel_rfl
  t5 := Tryd.underlying5
  a5 := Tryd.isAgg5
  z5 := Tryd.sizeOf5
  v5 := Tryd.zeroValue5
  infoByte := by kernel_rfl
  cellsByte := by kernel_rfl
  sizeByte := by kernel_rfl
  neB5 := by decide }
open Go.RowKit Go.Lib in
/-- **strings.Repeat: count ≥ 0, the result within one allocation: count copies of s.** (LAID: no walk: one application.) -/
theorem Tryd.strings_Repeat (s : ByteArray) (c : Nat) (w : World) (hc : c ≤ 9223372036854775807) (hlen : s.size * c ≤ 140737488355328) :
    Calls Tryd.prog 38 #[.string s, .int .i64 c] w fun e w' => e = .returned (.string ⟨(Lib.repeatL s.data.toList c).toArray⟩) ∧ Below w.heap.size w w' := Any.strings_Repeat Tryd.lays105 Tryd.Builder_Extra_105 s c w hc hlen
def Tryd.lays169_ren : Go.Shelf.Ren := ⟨fun | 169 => 25 | n => n, fun | 70 => 55 | 9 => 9 | 0 => 0 | 72 => 58 | 37 => 56 | 127 => 92 | 3 => 3 | 5 => 5 | n => n, fun | n => n⟩
theorem Tryd.lays169 : Go.Proofs.Lays.n169 Tryd.prog Tryd.lays169_ren := {
  mixed := by kernel_rfl
  f169 := Tryd.func25.trans (congrArg some (by kernel_rfl))
  t0 := Tryd.underlying0
  a0 := Tryd.isAgg0
  z0 := Tryd.sizeOf0
  v0 := Tryd.zeroValue0
  t3 := Tryd.underlying3
  a3 := Tryd.isAgg3
  z3 := Tryd.sizeOf3
  v3 := Tryd.zeroValue3
  t9 := Tryd.underlying9
  a9 := Tryd.isAgg9
  z9 := Tryd.sizeOf9
  v9 := Tryd.zeroValue9
  t37 := Tryd.underlying56
  a37 := Tryd.isAgg56
  z37 := Tryd.sizeOf56
  v37 := Tryd.zeroValue56
  t70 := Tryd.underlying55
  a70 := Tryd.isAgg55
  z70 := Tryd.sizeOf55
  v70 := Tryd.zeroValue55
  t72 := Tryd.underlying58
  a72 := Tryd.isAgg58
  z72 := Tryd.sizeOf58
  v72 := Tryd.zeroValue58
  t127 := Tryd.underlying92
  a127 := Tryd.isAgg92
  z127 := Tryd.sizeOf92
  v127 := Tryd.zeroValue92 }
theorem Tryd.Builder_Extra_169 : Builder.Extra Tryd.prog Tryd.lays169_ren := {
  sizeBuilder := by kernel_rfl
  liesBuilder := by kernel_rfl
  t5 := Tryd.underlying5
  a5 := Tryd.isAgg5
  z5 := Tryd.sizeOf5
  v5 := Tryd.zeroValue5
  infoByte := by kernel_rfl
  cellsByte := by kernel_rfl
  sizeByte := by kernel_rfl
  neB5 := by decide }
open Go.RowKit in
/-- (*strings.Builder).String: "String returns the accumulated string.": WHATEVER THE BUILDER HOLDS. (LAID: no walk: one application.) -/
theorem Tryd.Builder_String_any (B b : Nat) (l : List UInt8) (w : World) (h : Lib.IsBuilder 58 5 B b (Lib.byteCells l) w) (hBw : B ≤ w.heap.size) :
    Calls Tryd.prog 25 #[.pointer (some ⟨b, 0, none⟩)] w fun e w' => e = .returned (.string ⟨l.toArray⟩) ∧ Below B w w' := Any.Builder_String_any Tryd.lays169 Tryd.Builder_Extra_169 B b l w h hBw
end Go.Proofs
end
section
/- strings.Repeat of two blanks. -/
namespace Go.Proofs.YtfdmgeloghpodaaDoor
open Go.RowKit
set_option linter.unusedVariables false
set_option linter.unusedSimpArgs false
theorem pad_any (d : Nat) (w : World) (hd : d ≤ 1000000) : Calls Tryd.prog 38 #[.string { data := #[32, 32] }, .int .i64 (d : Nat)] w fun e w' => e = .returned (.string (bstr (Tm.pad d))) ∧ Below w.heap.size w w' := by
  refine (Tryd.strings_Repeat { data := #[32, 32] } d w (by omega) (by show 2 * d ≤ _; omega)).mono ?_
  rintro e w' ⟨he, hb⟩
  refine ⟨?_, hb⟩
  rw [he]
  have : Lib.repeatL ({ data := #[32, 32] } : ByteArray).data.toList d = Tm.pad d := by
    have := Lib.repeatL_replicate (32 : UInt8) 2 d
    unfold Tm.pad
    rw [Nat.mul_comm 2 d, ← this]
    rfl
  rw [this]; rfl
theorem bdString (B b : Nat) (l : List UInt8) (w : World) (h : IsB B b l w) (hBw : B ≤ w.heap.size) :
    Calls Tryd.prog 25 #[.pointer (some ⟨b, 0, none⟩)] w fun e w' => e = .returned (.string (bstr l)) ∧ Below B w w' := Tryd.Builder_String_any B b l w h hBw
end Go.Proofs.YtfdmgeloghpodaaDoor
end
