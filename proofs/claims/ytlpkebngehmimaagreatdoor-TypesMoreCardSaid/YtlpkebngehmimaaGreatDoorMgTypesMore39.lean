/- strings.Repeat of two blanks. -/
import Derived.Shelf.Strings.Builder1
import Derived.Shelf.Strings.Builder2
import Derived.Shelf.Strings.BuilderF
import Derived.Shelf.Strings.BuilderK
import Derived.Shelf.Strings.Builder2Cap
import Derived.Shelf.Strings.Search1
import Derived.Shelf.Strings.Search2
import Derived.Shelf.Strings.Search3
import Derived.Shelf.LaysM
import Derived.Shelf.Strings.Shaped
import Derived.Shelf.Strings.Prefix
import Derived.Shelf.Bits.Mul64
import Derived.Shelf.Strings.Repeat
import Derived.Shelf.Strings.BuilderCap
import Derived.Shelf.Slices.Turned
import Derived.Test.YtlpkebngehmimaaGreatDoorProg
import Derived.Test.YtlpkebngehmimaaGreatDoorMgTypesMore38
import Derived.Test.YtlpkebngehmimaaGreatDoorMgTypesMore34
section
/- What types.checker.items holds. -/
namespace Go.Proofs.YtlpkebngehmimaaGreatDoor
open Go.RowKit
set_option linter.unusedVariables false
set_option linter.unusedSimpArgs false
open Rd
theorem zeroInt (w : World) : (zeroValue 3).run Tryz.prog w = .ok (.int .i64 0) w := by kernel_rfl
theorem infoString : (Tryz.prog.info? 9).map (fun i => (i.zero, i.size, i.bytes)) = some (some (.string ByteArray.empty), 1, 16) := by kernel_rfl
abbrev NameSet (w : World) (b : Nat) (S : List Tm.Wd) : Prop := MapN Tryz.prog 9 3 w b S.length S
theorem MapN.block {P : Program} {k e : TypeId} {w : World} {b n : Nat} {S : List (List UInt8)} (h : MapN P k e w b n S) : ∃ es clock, w.heap[b]? = some (.map es clock) := by
  obtain ⟨D, ⟨es, clock, hb, _⟩, _⟩ := h
  exact ⟨es, clock, hb⟩
theorem row_not_map {w : World} {g off : Nat} {e : TypeId} {xs : List Value} (h : RowAt w g off e xs) {b : Nat} (hm : ∃ es clock, w.heap[b]? = some (.map es clock)) : g ≠ b := by
  rintro rfl
  obtain ⟨c, z, h1, _⟩ := h
  obtain ⟨es, cl, h2⟩ := hm
  rw [h1] at h2
  injection h2 with h2
  cases h2
structure ItS (V w : World) (cb tb mb : Nat) (ts ns seen : List Tm.Wd) (sa : Option Addr) (sc : Nat) : Prop where
  bel : Below V.heap.size V w
  box : RowAt w cb 0 74 [.map (some tb), .map (some mb), .slice sa seen.length sc]
  cbV : V.heap.size ≤ cb
  tm : NameSet w tb ts
  nm : NameSet w mb ns
  mbV : V.heap.size ≤ mb
  own : Owns w V.heap.size 9 1 sa seen.length sc (wdVals seen)
  ne : tb ≠ mb
section
variable {V w w' : World} {cb tb mb : Nat} {ts ns seen : List Tm.Wd} {sa : Option Addr} {sc : Nat}
theorem ItS.up (h : ItS V w cb tb mb ts ns seen sa sc) (hb : Below w.heap.size w w') : ItS V w' cb tb mb ts ns seen sa sc :=
  ⟨h.bel.trans (hb.mono h.bel.size), h.box.below hb h.box.lt, h.cbV, h.tm.keep (hb.block tb h.tm.lt), h.nm.keep (hb.block mb h.nm.lt), h.mbV, h.own.below hb (Nat.le_refl _), h.ne⟩
theorem ItS.drewN (h : ItS V w cb tb mb ts ns seen sa sc) (k : Nat) : ItS V (w.drewN k) cb tb mb ts ns seen sa sc := h.up ⟨rfl, rfl, rfl, Nat.le_refl _, fun _ _ => rfl⟩
theorem ItS.drew (h : ItS V w cb tb mb ts ns seen sa sc) : ItS V w.drew cb tb mb ts ns seen sa sc := h.up (Below.refl _ _).drew
theorem ItS.cks (h : ItS V w cb tb mb ts ns seen sa sc) : CkS w cb tb mb sa sc seen := ⟨h.box, h.own.mono (Nat.zero_le _)⟩
theorem ItS.cells (h : ItS V w cb tb mb ts ns seen sa sc) : w.cell? ⟨cb, 0, none⟩ = some (.map (some tb)) ∧ w.cell? ⟨cb, 1, none⟩ = some (.map (some mb)) ∧ w.cell? ⟨cb, 2, none⟩ = some (.slice sa seen.length sc) ∧ w.frozen? ⟨cb, 2, none⟩ = false :=
  ⟨h.box.cell0 0 (by simp), h.box.cell0 1 (by simp), h.box.cell0 2 (by simp), h.box.frozen0 2 (by simp)⟩
/-- a name more -/
theorem ItS.store (h : ItS V w cb tb mb ts ns seen sa sc) {s : Tm.Wd} (hm : MapN Tryz.prog 9 3 w' mb (ns.length + 1) (s :: ns)) (hg : w.grownBy w' (some mb)) : ItS V w' cb tb mb ts (s :: ns) seen sa sc := by
  have k : ∀ b, b < w.heap.size → b ≠ mb → w'.heap[b]? = w.heap[b]? := fun b hb hne => hg.block b hb (fun e => by injection e with e; exact hne e)
  refine ⟨h.bel.grown hg h.bel.size (fun b e => by injection e with e; have := h.mbV; omega), h.box.of_heap (k cb h.box.lt (row_not_map h.box h.nm.block)), h.cbV, h.tm.keep (k tb h.tm.lt h.ne), hm, h.mbV, h.own.keep (fun x hx => ?_), h.ne⟩
  have ho := h.own
  subst hx
  exact k _ ho.lt.2 (row_not_map ho.row.2.2.2.2 h.nm.block)
theorem ItS.sa_ne (h : ItS V w cb tb mb ts ns seen sa sc) : ∀ x, sa = some x → x.block ≠ cb ∧ x.block ≠ tb ∧ x.block ≠ mb := by
  intro x hx
  have ho := h.own
  subst hx
  refine ⟨?_, row_not_map ho.row.2.2.2.2 h.tm.block, row_not_map ho.row.2.2.2.2 h.nm.block⟩
  intro e
  have := (e ▸ ho.row.2.2.2.2 : RowAt w cb 0 9 _).ty h.box
  exact absurd this (by decide)
/-- a name more is seen: the append -/
theorem ItS.pushed (h : ItS V w cb tb mb ts ns seen sa sc) {w4 : World} {a' : Option Addr} {c' : Nat} {x : Tm.Wd} (ho : Owns w4 V.heap.size 9 1 a' (seen.length + 1) c' (wdVals seen ++ [.string (bstr x)])) (hg : w.grownBy w4 (blk sa)) :
    RowAt w4 cb 0 74 [.map (some tb), .map (some mb), .slice sa seen.length sc] ∧ ItS V (w4.setCell ⟨cb, 2, none⟩ (.slice a' (seen.length + 1) c')) cb tb mb ts ns (seen ++ [x]) a' c' := by
  have k : ∀ b, b < w.heap.size → (∀ y, sa = some y → y.block ≠ b) → w4.heap[b]? = w.heap[b]? := fun b hb hne => hg.block b hb (fun e => by
    cases hs : sa with
    | none => rw [hs] at e; simp [blk] at e
    | some y => rw [hs] at e; simp only [blk, Option.map_some] at e; injection e with e; exact hne y hs e.symm)
  have hbox := h.box.of_heap (k cb h.box.lt (fun y hy => (h.sa_ne y hy).1))
  have htm := h.tm.keep (k tb h.tm.lt (fun y hy => (h.sa_ne y hy).2.1))
  have hnm := h.nm.keep (k mb h.nm.lt (fun y hy => (h.sa_ne y hy).2.2))
  have hbel := below_blk h.bel h.own (Nat.le_refl _) h.bel.size hg
  have far : ∀ b, b ≠ cb → (w4.setCell ⟨cb, 2, none⟩ (.slice a' (seen.length + 1) c')).heap[b]? = w4.heap[b]? := fun b hb => Below.heap_setCell w4 ⟨cb, 2, none⟩ _ b hb
  refine ⟨hbox, hbel.setCell (p := ⟨cb, 2, none⟩) h.cbV _, ?_, h.cbV, htm.keep (far tb (fun e => row_not_map hbox htm.block e.symm)), hnm.keep (far mb (fun e => row_not_map hbox hnm.block e.symm)), h.mbV, ?_, h.ne⟩
  · have := hbox.set0 2 (by simp) (.slice a' (seen.length + 1) c')
    rw [List.length_append]
    exact this
  · rw [List.length_append, wdVals_snoc]
    refine ho.keep fun y hy => far y.block ?_
    subst hy
    intro e
    have := (e ▸ ho.row.2.2.2.2 : RowAt w4 cb 0 9 _).ty hbox
    exact absurd this (by decide)
/-- what was seen at the begin alone -/
theorem ItS.cut (h : ItS V w cb tb mb ts ns seen sa sc) (n : Nat) (hn : n ≤ seen.length) : ItS V (w.setCell ⟨cb, 2, none⟩ (.slice sa n sc)) cb tb mb ts ns (seen.take n) sa sc := by
  have far : ∀ b, b ≠ cb → (w.setCell ⟨cb, 2, none⟩ (.slice sa n sc)).heap[b]? = w.heap[b]? := fun b hb => Below.heap_setCell w ⟨cb, 2, none⟩ _ b hb
  have hl : (seen.take n).length = n := by rw [List.length_take]; omega
  refine ⟨h.bel.setCell (p := ⟨cb, 2, none⟩) h.cbV _, ?_, h.cbV, h.tm.keep (far tb (fun e => row_not_map h.box h.tm.block e.symm)), h.nm.keep (far mb (fun e => row_not_map h.box h.nm.block e.symm)), h.mbV, ?_, h.ne⟩
  · have := h.box.set0 2 (by simp) (.slice sa n sc)
    rw [hl]
    exact this
  · have := h.own.cutTo n hn
    rw [hl, ← wdVals_take]
    rw [Nat.mul_one] at this
    exact this.keep fun y hy => far y.block (fun e => (h.sa_ne y hy).1 e)
end
namespace Tm
def itemsE (ts : List Wd) (l : Its) (ns seen : List Wd) : Res := match chkL ts l ns seen with
  | .bad e => .bad e
  | .ok ns' _ => match rulesE l.row with
    | some e => .bad e
    | none => .ok ns' seen
/-- each expression has not too many names -/
def FewX : Its → Prop
  | .nil => True
  | .cons h l => (namesO h.cnt).length ≤ 100000 ∧ FewX l
  | .when _ c b l => (namesX c).length ≤ 100000 ∧ FewX b ∧ FewX l
theorem few_drop : ∀ (i : Nat) (l : Its), FewX l → FewX (l.drop i)
  | 0, l, h => h
  | i + 1, .nil, h => h
  | i + 1, .cons _ l, h => few_drop i l h.2
  | i + 1, .when _ _ _ l, h => few_drop i l h.2.2
theorem chkL_len {ts : List Wd} : ∀ {l : Its} {ns seen ns' seen' : List Wd}, chkL ts l ns seen = .ok ns' seen' → ns'.length ≤ ns.length + l.sz
  | .nil, ns, seen, ns', seen', h => by
    unfold chkL at h
    cases h
    simp [Its.sz]
  | .cons a l, ns, seen, ns', seen', h => by
    unfold chkL at h
    split at h
    · cases h
    · split at h
      · cases h
      · split at h
        · have := chkL_len h
          simp only [List.length_cons] at this
          simp only [Its.sz]
          omega
        · cases h
  | .when _ c b l, ns, seen, ns', seen', h => by
    unfold chkL at h
    split at h
    · cases hb : chkL ts b ns seen with
      | bad e => rw [hb] at h; cases h
      | ok n2 s2 =>
        rw [hb] at h
        simp only [] at h
        have h1 := chkL_len hb
        split at h
        · cases h
        · have h2 := chkL_len h
          simp only [Its.sz]
          omega
    · cases h
theorem chkL_when (ts : List Wd) (a : Nat) (c : Ex.X) (b l : Its) (ns seen : List Wd) : chkL ts (.when a c b l) ns seen = if asks seen (namesX c) then (match itemsE ts b ns seen with | .bad e => .bad e | .ok ns' _ => chkL ts l ns' seen) else .bad 5 := by
  rw [chkL]
  split
  · unfold itemsE
    cases chkL ts b ns seen with
    | bad e => rfl
    | ok n2 s2 =>
      simp only []
      cases rulesE b.row <;> rfl
  · rfl
end Tm
def ItemsOut (V : World) (cb tb mb : Nat) (ts seen : List Tm.Wd) (r : Tm.Res) (e : Ending) (w' : World) : Prop := match r with
  | .bad n => Below V.heap.size V w' ∧ ∃ g p : Nat, e = thrownT g ∧ RowAt w' g 0 111 [.int .i64 (n : Nat), .int .i64 (p : Nat)]
  | .ok ns' _ => e = .returned (.tuple #[]) ∧ ∃ sa sc, ItS V w' cb tb mb ts ns' seen sa sc
def ItemsC (l : Tm.Its) : Prop := ∀ (V w : World) (rb cap cb tb mb sc : Nat) (ga sa : Option Addr) (bs : List Value) (ts ns seen : List Tm.Wd), ItV V w rb l ga cap bs → ItS V w cb tb mb ts ns seen sa sc → ns.length + Tm.Its.sz l ≤ 100000 → seen.length + Tm.Its.sz l ≤ 100000 → Tm.Its.len l ≤ 100000 → Tm.FineI l → Tm.FewX l →
  Calls Tryz.prog 32 #[.pointer (some ⟨cb, 0, none⟩), .slice ga (Tm.Its.len l) cap] w (ItemsOut V cb tb mb ts seen (Tm.itemsE ts l ns seen))
end Go.Proofs.YtlpkebngehmimaaGreatDoor
end
section
/-
  DERIVED: THE SHELF's CONTRACTS AT THIS DUMP, IN PLAIN WORDS (tools/lay-plain.mjs out of 'TryzShelfTmLay.lean', which tools/lay-shelf.mjs wrote): THE SAME DECLARATIONS UNDER THE SAME NAMES: 'import', 'namespace', 'open', 'def', 'theorem' AND NOTHING ELSE: no command of the shelf's: FOR A HAND-IN. Each laying: the table of numbers ('.._ren') and one theorem, a field a fact of the dump's own or the kernel's comparison; each contract: ONE APPLICATION.
-/
namespace Go.Proofs
open Go.Shelf
def Tryz.lays105_ren : Go.Shelf.Ren := ⟨fun | 105 => 69 | 212 => 95 | 99 => 96 | 165 => 97 | 166 => 41 | 170 => 98 | 169 => 43 | 263 => 112 | 264 => 113 | 206 => 114 | 240 => 68 | 241 => 115 | 276 => 94 | 277 => 119 | n => n, fun | 9 => 9 | 3 => 3 | 4 => 4 | 20 => 20 | 0 => 0 | 46 => 92 | 109 => 178 | 5 => 5 | 72 => 95 | 76 => 96 | 51 => 186 | 146 => 187 | 53 => 130 | 148 => 196 | 70 => 93 | 37 => 64 | 75 => 27 | 127 => 143 | 164 => 113 | 80 => 57 | n => n, fun | n => n⟩
theorem Tryz.lays105 : Go.Proofs.Lays.n105 Tryz.prog Tryz.lays105_ren := {
  mixed := by kernel_rfl
  f99 := Tryz.func96.trans (congrArg some (by kernel_rfl))
  f105 := Tryz.func69.trans (congrArg some (by kernel_rfl))
  f165 := Tryz.func97.trans (congrArg some (by kernel_rfl))
  f166 := Tryz.func41.trans (congrArg some (by kernel_rfl))
  f169 := Tryz.func43.trans (congrArg some (by kernel_rfl))
  f170 := Tryz.func98.trans (congrArg some (by kernel_rfl))
  f206 := Tryz.func114.trans (congrArg some (by kernel_rfl))
  f212 := Tryz.func95.trans (congrArg some (by kernel_rfl))
  f240 := Tryz.func68.trans (congrArg some (by kernel_rfl))
  f241 := Tryz.func115.trans (congrArg some (by kernel_rfl))
  f263 := Tryz.func112.trans (congrArg some (by kernel_rfl))
  f264 := Tryz.func113.trans (congrArg some (by kernel_rfl))
  f276 := Tryz.func94.trans (congrArg some (by kernel_rfl))
  f277 := Tryz.func119.trans (congrArg some (by kernel_rfl))
  t0 := Tryz.underlying0
  a0 := Tryz.isAgg0
  z0 := Tryz.sizeOf0
  v0 := Tryz.zeroValue0
  t3 := Tryz.underlying3
  a3 := Tryz.isAgg3
  z3 := Tryz.sizeOf3
  v3 := Tryz.zeroValue3
  t4 := Tryz.underlying4
  a4 := Tryz.isAgg4
  z4 := Tryz.sizeOf4
  v4 := Tryz.zeroValue4
  t5 := Tryz.underlying5
  a5 := Tryz.isAgg5
  z5 := Tryz.sizeOf5
  v5 := Tryz.zeroValue5
  t9 := Tryz.underlying9
  a9 := Tryz.isAgg9
  z9 := Tryz.sizeOf9
  v9 := Tryz.zeroValue9
  t20 := Tryz.underlying20
  a20 := Tryz.isAgg20
  z20 := Tryz.sizeOf20
  v20 := Tryz.zeroValue20
  t37 := Tryz.underlying64
  a37 := Tryz.isAgg64
  z37 := Tryz.sizeOf64
  v37 := Tryz.zeroValue64
  t46 := Tryz.underlying92
  a46 := Tryz.isAgg92
  z46 := Tryz.sizeOf92
  v46 := Tryz.zeroValue92
  t51 := Tryz.underlying186
  a51 := Tryz.isAgg186
  z51 := Tryz.sizeOf186
  v51 := Tryz.zeroValue186
  t53 := Tryz.underlying130
  a53 := Tryz.isAgg130
  z53 := Tryz.sizeOf130
  v53 := Tryz.zeroValue130
  t70 := Tryz.underlying93
  a70 := Tryz.isAgg93
  z70 := Tryz.sizeOf93
  v70 := Tryz.zeroValue93
  t72 := Tryz.underlying95
  a72 := Tryz.isAgg95
  z72 := Tryz.sizeOf95
  v72 := Tryz.zeroValue95
  t75 := Tryz.underlying27
  a75 := Tryz.isAgg27
  z75 := Tryz.sizeOf27
  v75 := Tryz.zeroValue27
  t76 := Tryz.underlying96
  a76 := Tryz.isAgg96
  z76 := Tryz.sizeOf96
  v76 := Tryz.zeroValue96
  t109 := Tryz.underlying178
  a109 := Tryz.isAgg178
  z109 := Tryz.sizeOf178
  v109 := Tryz.zeroValue178
  t127 := Tryz.underlying143
  a127 := Tryz.isAgg143
  z127 := Tryz.sizeOf143
  v127 := Tryz.zeroValue143
  t146 := Tryz.underlying187
  a146 := Tryz.isAgg187
  z146 := Tryz.sizeOf187
  v146 := Tryz.zeroValue187
  t148 := Tryz.underlying196
  a148 := Tryz.isAgg196
  z148 := Tryz.sizeOf196
  v148 := Tryz.zeroValue196
  t164 := Tryz.underlying113
  a164 := Tryz.isAgg113
  z164 := Tryz.sizeOf113
  v164 := Tryz.zeroValue113 }
theorem Tryz.Builder_Extra_105 : Builder.Extra Tryz.prog Tryz.lays105_ren := {
  sizeBuilder := by kernel_rfl
  liesBuilder := by kernel_rfl
  t5 := Tryz.underlying5
  a5 := Tryz.isAgg5
  z5 := Tryz.sizeOf5
  v5 := Tryz.zeroValue5
  infoByte := by kernel_rfl
  cellsByte := by kernel_rfl
  sizeByte := by kernel_rfl
  neB5 := by decide }
open Go.RowKit Go.Lib in
/-- **strings.Repeat: count ≥ 0, the result within one allocation: count copies of s.** (LAID: no walk: one application.) -/
theorem Tryz.strings_Repeat (s : ByteArray) (c : Nat) (w : World) (hc : c ≤ 9223372036854775807) (hlen : s.size * c ≤ 140737488355328) :
    Calls Tryz.prog 69 #[.string s, .int .i64 c] w fun e w' => e = .returned (.string ⟨(Lib.repeatL s.data.toList c).toArray⟩) ∧ Below w.heap.size w w' := Any.strings_Repeat Tryz.lays105 Tryz.Builder_Extra_105 s c w hc hlen
def Tryz.lays169_ren : Go.Shelf.Ren := ⟨fun | 169 => 43 | n => n, fun | 70 => 93 | 9 => 9 | 0 => 0 | 72 => 95 | 37 => 64 | 127 => 143 | 3 => 3 | 5 => 5 | n => n, fun | n => n⟩
theorem Tryz.lays169 : Go.Proofs.Lays.n169 Tryz.prog Tryz.lays169_ren := {
  mixed := by kernel_rfl
  f169 := Tryz.func43.trans (congrArg some (by kernel_rfl))
  t0 := Tryz.underlying0
  a0 := Tryz.isAgg0
  z0 := Tryz.sizeOf0
  v0 := Tryz.zeroValue0
  t3 := Tryz.underlying3
  a3 := Tryz.isAgg3
  z3 := Tryz.sizeOf3
  v3 := Tryz.zeroValue3
  t9 := Tryz.underlying9
  a9 := Tryz.isAgg9
  z9 := Tryz.sizeOf9
  v9 := Tryz.zeroValue9
  t37 := Tryz.underlying64
  a37 := Tryz.isAgg64
  z37 := Tryz.sizeOf64
  v37 := Tryz.zeroValue64
  t70 := Tryz.underlying93
  a70 := Tryz.isAgg93
  z70 := Tryz.sizeOf93
  v70 := Tryz.zeroValue93
  t72 := Tryz.underlying95
  a72 := Tryz.isAgg95
  z72 := Tryz.sizeOf95
  v72 := Tryz.zeroValue95
  t127 := Tryz.underlying143
  a127 := Tryz.isAgg143
  z127 := Tryz.sizeOf143
  v127 := Tryz.zeroValue143 }
theorem Tryz.Builder_Extra_169 : Builder.Extra Tryz.prog Tryz.lays169_ren := {
  sizeBuilder := by kernel_rfl
  liesBuilder := by kernel_rfl
  t5 := Tryz.underlying5
  a5 := Tryz.isAgg5
  z5 := Tryz.sizeOf5
  v5 := Tryz.zeroValue5
  infoByte := by kernel_rfl
  cellsByte := by kernel_rfl
  sizeByte := by kernel_rfl
  neB5 := by decide }
open Go.RowKit in
/-- (*strings.Builder).String: "String returns the accumulated string.": WHATEVER THE BUILDER HOLDS. (LAID: no walk: one application.) -/
theorem Tryz.Builder_String_any (B b : Nat) (l : List UInt8) (w : World) (h : Lib.IsBuilder 95 5 B b (Lib.byteCells l) w) (hBw : B ≤ w.heap.size) :
    Calls Tryz.prog 43 #[.pointer (some ⟨b, 0, none⟩)] w fun e w' => e = .returned (.string ⟨l.toArray⟩) ∧ Below B w w' := Any.Builder_String_any Tryz.lays169 Tryz.Builder_Extra_169 B b l w h hBw
def Tryz.laysM143_ren : Go.Shelf.Ren := ⟨fun | 143 => 28 | 219 => 50 | 217 => 77 | 225 => 78 | 224 => 79 | 267 => 80 | 266 => 105 | 314 => 106 | n => n, fun | 9 => 9 | 3 => 3 | 4 => 4 | 5 => 5 | 46 => 92 | 146 => 187 | 51 => 186 | n => n, fun | 1 => 1 | n => n⟩
theorem Tryz.laysM143 : Go.Proofs.LaysM.n143 Tryz.prog Tryz.laysM143_ren := {
  mixed := by kernel_rfl
  f143 := Tryz.func28.trans (congrArg some (by kernel_rfl))
  f217 := Tryz.func77.trans (congrArg some (by kernel_rfl))
  f219 := Tryz.func50.trans (congrArg some (by kernel_rfl))
  f224 := Tryz.func79.trans (congrArg some (by kernel_rfl))
  f225 := Tryz.func78.trans (congrArg some (by kernel_rfl))
  f266 := Tryz.func105.trans (congrArg some (by kernel_rfl))
  f267 := Tryz.func80.trans (congrArg some (by kernel_rfl))
  f314 := Tryz.func106.trans (congrArg some (by kernel_rfl))
  t3 := Tryz.underlying3
  a3 := Tryz.isAgg3
  z3 := Tryz.sizeOf3
  v3 := Tryz.zeroValue3
  t4 := Tryz.underlying4
  a4 := Tryz.isAgg4
  z4 := Tryz.sizeOf4
  v4 := Tryz.zeroValue4
  t5 := Tryz.underlying5
  a5 := Tryz.isAgg5
  z5 := Tryz.sizeOf5
  v5 := Tryz.zeroValue5
  t9 := Tryz.underlying9
  a9 := Tryz.isAgg9
  z9 := Tryz.sizeOf9
  v9 := Tryz.zeroValue9
  t46 := Tryz.underlying92
  a46 := Tryz.isAgg92
  z46 := Tryz.sizeOf92
  v46 := Tryz.zeroValue92
  t51 := Tryz.underlying186
  a51 := Tryz.isAgg186
  z51 := Tryz.sizeOf186
  v51 := Tryz.zeroValue186
  t146 := Tryz.underlying187
  a146 := Tryz.isAgg187
  z146 := Tryz.sizeOf187
  v146 := Tryz.zeroValue187
  g1 := by kernel_rfl
  i3 := by kernel_rfl
  i4 := by kernel_rfl
  i5 := by kernel_rfl
  i9 := by kernel_rfl
  i46 := by kernel_rfl
  i51 := by kernel_rfl
  i146 := by kernel_rfl
  m1 := by kernel_rfl
  s1_3 := fun w h => Go.Proofs.cell_of_shapedOpen_int (zero := #[.int .i64 0]) (t := 3) h (of_decide_eq_true (by kernel_rfl)) (by kernel_rfl) rfl (by kernel_rfl) (by kernel_rfl) Tryz.underlying3 }
open Go.RowKit Go.Lib in
theorem Tryz.strings_Index_shaped (s sub : ByteArray) (w : World) (h : w.ShapedOpen Tryz.prog) (hs : s.size < 4294967281) :
    Calls Tryz.prog 28 #[.string s, .string sub] w fun e w' => e = .returned (.int .i64 (Lib.index s.data.toList sub.data.toList)) ∧ w' = w := Any.strings_Index_shaped Tryz.laysM143 s sub w h hs
end Go.Proofs
end
section
/- strings.Repeat of two blanks. -/
namespace Go.Proofs.YtlpkebngehmimaaGreatDoor
open Go.RowKit
set_option linter.unusedVariables false
set_option linter.unusedSimpArgs false
theorem pad_any (d : Nat) (w : World) (hd : d ≤ 1000000) : Calls Tryz.prog 69 #[.string { data := #[32, 32] }, .int .i64 (d : Nat)] w fun e w' => e = .returned (.string (bstr (Tm.pad d))) ∧ Below w.heap.size w w' := by
  refine (Tryz.strings_Repeat { data := #[32, 32] } d w (by omega) (by show 2 * d ≤ _; omega)).mono ?_
  rintro e w' ⟨he, hb⟩
  refine ⟨?_, hb⟩
  rw [he]
  have : Lib.repeatL ({ data := #[32, 32] } : ByteArray).data.toList d = Tm.pad d := by
    have := Lib.repeatL_replicate (32 : UInt8) 2 d
    unfold Tm.pad
    rw [Nat.mul_comm 2 d, ← this]
    rfl
  rw [this]; rfl
theorem bdString (B b : Nat) (l : List UInt8) (w : World) (h : IsB B b l w) (hBw : B ≤ w.heap.size) :
    Calls Tryz.prog 43 #[.pointer (some ⟨b, 0, none⟩)] w fun e w' => e = .returned (.string (bstr l)) ∧ Below B w w' := Tryz.Builder_String_any B b l w h hBw
end Go.Proofs.YtlpkebngehmimaaGreatDoor
end
