/- layout's reader: one of any item; what items' loop holds. -/
import Derived.Test.YtlomecfhobehnaaGreatDoorMgLayoutBack33
import Derived.Test.YtlomecfhobehnaaGreatDoorMgLayoutBack15
import Derived.Test.YtlomecfhobehnaaGreatDoorMgLayoutBack27
import Derived.Test.YtlomecfhobehnaaGreatDoorMgLayoutBack28
section
/- What types.checker.items holds. -/
namespace Go.Proofs.YtlomecfhobehnaaGreatDoor
open Go.RowKit
set_option linter.unusedVariables false
set_option linter.unusedSimpArgs false
open Rd
theorem zeroInt (w : World) : (zeroValue 3).run Tryz.prog w = .ok (.int .i64 0) w := by kernel_rfl
theorem infoString : (Tryz.prog.info? 9).map (fun i => (i.zero, i.size, i.bytes)) = some (some (.string ByteArray.empty), 1, 16) := by kernel_rfl
abbrev NameSet (w : World) (b : Nat) (S : List Tm.Wd) : Prop := MapN Tryz.prog 9 3 w b S.length S
theorem MapN.block {P : Program} {k e : TypeId} {w : World} {b n : Nat} {S : List (List UInt8)} (h : MapN P k e w b n S) : ∃ es clock, w.heap[b]? = some (.map es clock) := by
  obtain ⟨D, ⟨es, clock, hb, _⟩, _⟩ := h
  exact ⟨es, clock, hb⟩
theorem row_not_map {w : World} {g off : Nat} {e : TypeId} {xs : List Value} (h : RowAt w g off e xs) {b : Nat} (hm : ∃ es clock, w.heap[b]? = some (.map es clock)) : g ≠ b := by
  rintro rfl
  obtain ⟨c, z, h1, _⟩ := h
  obtain ⟨es, cl, h2⟩ := hm
  rw [h1] at h2
  injection h2 with h2
  cases h2
structure ItS (V w : World) (cb tb mb : Nat) (ts ns seen : List Tm.Wd) (sa : Option Addr) (sc : Nat) : Prop where
  bel : Below V.heap.size V w
  box : RowAt w cb 0 107 [.map (some tb), .map (some mb), .slice sa seen.length sc]
  cbV : V.heap.size ≤ cb
  tm : NameSet w tb ts
  nm : NameSet w mb ns
  mbV : V.heap.size ≤ mb
  own : Owns w V.heap.size 9 1 sa seen.length sc (wdVals seen)
  ne : tb ≠ mb
section
variable {V w w' : World} {cb tb mb : Nat} {ts ns seen : List Tm.Wd} {sa : Option Addr} {sc : Nat}
theorem ItS.up (h : ItS V w cb tb mb ts ns seen sa sc) (hb : Below w.heap.size w w') : ItS V w' cb tb mb ts ns seen sa sc :=
  ⟨h.bel.trans (hb.mono h.bel.size), h.box.below hb h.box.lt, h.cbV, h.tm.keep (hb.block tb h.tm.lt), h.nm.keep (hb.block mb h.nm.lt), h.mbV, h.own.below hb (Nat.le_refl _), h.ne⟩
theorem ItS.drewN (h : ItS V w cb tb mb ts ns seen sa sc) (k : Nat) : ItS V (w.drewN k) cb tb mb ts ns seen sa sc := h.up ⟨rfl, rfl, rfl, Nat.le_refl _, fun _ _ => rfl⟩
theorem ItS.drew (h : ItS V w cb tb mb ts ns seen sa sc) : ItS V w.drew cb tb mb ts ns seen sa sc := h.up (Below.refl _ _).drew
theorem ItS.cks (h : ItS V w cb tb mb ts ns seen sa sc) : CkS w cb tb mb sa sc seen := ⟨h.box, h.own.mono (Nat.zero_le _)⟩
theorem ItS.cells (h : ItS V w cb tb mb ts ns seen sa sc) : w.cell? ⟨cb, 0, none⟩ = some (.map (some tb)) ∧ w.cell? ⟨cb, 1, none⟩ = some (.map (some mb)) ∧ w.cell? ⟨cb, 2, none⟩ = some (.slice sa seen.length sc) ∧ w.frozen? ⟨cb, 2, none⟩ = false :=
  ⟨h.box.cell0 0 (by simp), h.box.cell0 1 (by simp), h.box.cell0 2 (by simp), h.box.frozen0 2 (by simp)⟩
/-- a name more -/
theorem ItS.store (h : ItS V w cb tb mb ts ns seen sa sc) {s : Tm.Wd} (hm : MapN Tryz.prog 9 3 w' mb (ns.length + 1) (s :: ns)) (hg : w.grownBy w' (some mb)) : ItS V w' cb tb mb ts (s :: ns) seen sa sc := by
  have k : ∀ b, b < w.heap.size → b ≠ mb → w'.heap[b]? = w.heap[b]? := fun b hb hne => hg.block b hb (fun e => by injection e with e; exact hne e)
  refine ⟨h.bel.grown hg h.bel.size (fun b e => by injection e with e; have := h.mbV; omega), h.box.of_heap (k cb h.box.lt (row_not_map h.box h.nm.block)), h.cbV, h.tm.keep (k tb h.tm.lt h.ne), hm, h.mbV, h.own.keep (fun x hx => ?_), h.ne⟩
  have ho := h.own
  subst hx
  exact k _ ho.lt.2 (row_not_map ho.row.2.2.2.2 h.nm.block)
theorem ItS.sa_ne (h : ItS V w cb tb mb ts ns seen sa sc) : ∀ x, sa = some x → x.block ≠ cb ∧ x.block ≠ tb ∧ x.block ≠ mb := by
  intro x hx
  have ho := h.own
  subst hx
  refine ⟨?_, row_not_map ho.row.2.2.2.2 h.tm.block, row_not_map ho.row.2.2.2.2 h.nm.block⟩
  intro e
  have := (e ▸ ho.row.2.2.2.2 : RowAt w cb 0 9 _).ty h.box
  exact absurd this (by decide)
/-- a name more is seen: the append -/
theorem ItS.pushed (h : ItS V w cb tb mb ts ns seen sa sc) {w4 : World} {a' : Option Addr} {c' : Nat} {x : Tm.Wd} (ho : Owns w4 V.heap.size 9 1 a' (seen.length + 1) c' (wdVals seen ++ [.string (bstr x)])) (hg : w.grownBy w4 (blk sa)) :
    RowAt w4 cb 0 107 [.map (some tb), .map (some mb), .slice sa seen.length sc] ∧ ItS V (w4.setCell ⟨cb, 2, none⟩ (.slice a' (seen.length + 1) c')) cb tb mb ts ns (seen ++ [x]) a' c' := by
  have k : ∀ b, b < w.heap.size → (∀ y, sa = some y → y.block ≠ b) → w4.heap[b]? = w.heap[b]? := fun b hb hne => hg.block b hb (fun e => by
    cases hs : sa with
    | none => rw [hs] at e; simp [blk] at e
    | some y => rw [hs] at e; simp only [blk, Option.map_some] at e; injection e with e; exact hne y hs e.symm)
  have hbox := h.box.of_heap (k cb h.box.lt (fun y hy => (h.sa_ne y hy).1))
  have htm := h.tm.keep (k tb h.tm.lt (fun y hy => (h.sa_ne y hy).2.1))
  have hnm := h.nm.keep (k mb h.nm.lt (fun y hy => (h.sa_ne y hy).2.2))
  have hbel := below_blk h.bel h.own (Nat.le_refl _) h.bel.size hg
  have far : ∀ b, b ≠ cb → (w4.setCell ⟨cb, 2, none⟩ (.slice a' (seen.length + 1) c')).heap[b]? = w4.heap[b]? := fun b hb => Below.heap_setCell w4 ⟨cb, 2, none⟩ _ b hb
  refine ⟨hbox, hbel.setCell (p := ⟨cb, 2, none⟩) h.cbV _, ?_, h.cbV, htm.keep (far tb (fun e => row_not_map hbox htm.block e.symm)), hnm.keep (far mb (fun e => row_not_map hbox hnm.block e.symm)), h.mbV, ?_, h.ne⟩
  · have := hbox.set0 2 (by simp) (.slice a' (seen.length + 1) c')
    rw [List.length_append]
    exact this
  · rw [List.length_append, wdVals_snoc]
    refine ho.keep fun y hy => far y.block ?_
    subst hy
    intro e
    have := (e ▸ ho.row.2.2.2.2 : RowAt w4 cb 0 9 _).ty hbox
    exact absurd this (by decide)
/-- what was seen at the begin alone -/
theorem ItS.cut (h : ItS V w cb tb mb ts ns seen sa sc) (n : Nat) (hn : n ≤ seen.length) : ItS V (w.setCell ⟨cb, 2, none⟩ (.slice sa n sc)) cb tb mb ts ns (seen.take n) sa sc := by
  have far : ∀ b, b ≠ cb → (w.setCell ⟨cb, 2, none⟩ (.slice sa n sc)).heap[b]? = w.heap[b]? := fun b hb => Below.heap_setCell w ⟨cb, 2, none⟩ _ b hb
  have hl : (seen.take n).length = n := by rw [List.length_take]; omega
  refine ⟨h.bel.setCell (p := ⟨cb, 2, none⟩) h.cbV _, ?_, h.cbV, h.tm.keep (far tb (fun e => row_not_map h.box h.tm.block e.symm)), h.nm.keep (far mb (fun e => row_not_map h.box h.nm.block e.symm)), h.mbV, ?_, h.ne⟩
  · have := h.box.set0 2 (by simp) (.slice sa n sc)
    rw [hl]
    exact this
  · have := h.own.cutTo n hn
    rw [hl, ← wdVals_take]
    rw [Nat.mul_one] at this
    exact this.keep fun y hy => far y.block (fun e => (h.sa_ne y hy).1 e)
end
namespace Tm
def itemsE (ts : List Wd) (l : Its) (ns seen : List Wd) : Res := match chkL ts l ns seen with
  | .bad e => .bad e
  | .ok ns' _ => match rulesE l.row with
    | some e => .bad e
    | none => .ok ns' seen
/-- each expression has not too many names -/
def FewX : Its → Prop
  | .nil => True
  | .cons h l => (namesO h.cnt).length ≤ 100000 ∧ FewX l
  | .when _ c b l => (namesX c).length ≤ 100000 ∧ FewX b ∧ FewX l
theorem few_drop : ∀ (i : Nat) (l : Its), FewX l → FewX (l.drop i)
  | 0, l, h => h
  | i + 1, .nil, h => h
  | i + 1, .cons _ l, h => few_drop i l h.2
  | i + 1, .when _ _ _ l, h => few_drop i l h.2.2
theorem chkL_len {ts : List Wd} : ∀ {l : Its} {ns seen ns' seen' : List Wd}, chkL ts l ns seen = .ok ns' seen' → ns'.length ≤ ns.length + l.sz
  | .nil, ns, seen, ns', seen', h => by
    unfold chkL at h
    cases h
    simp [Its.sz]
  | .cons a l, ns, seen, ns', seen', h => by
    unfold chkL at h
    split at h
    · cases h
    · split at h
      · cases h
      · split at h
        · have := chkL_len h
          simp only [List.length_cons] at this
          simp only [Its.sz]
          omega
        · cases h
  | .when _ c b l, ns, seen, ns', seen', h => by
    unfold chkL at h
    split at h
    · cases hb : chkL ts b ns seen with
      | bad e => rw [hb] at h; cases h
      | ok n2 s2 =>
        rw [hb] at h
        simp only [] at h
        have h1 := chkL_len hb
        split at h
        · cases h
        · have h2 := chkL_len h
          simp only [Its.sz]
          omega
    · cases h
theorem chkL_when (ts : List Wd) (a : Nat) (c : Ex.X) (b l : Its) (ns seen : List Wd) : chkL ts (.when a c b l) ns seen = if asks seen (namesX c) then (match itemsE ts b ns seen with | .bad e => .bad e | .ok ns' _ => chkL ts l ns' seen) else .bad 5 := by
  rw [chkL]
  split
  · unfold itemsE
    cases chkL ts b ns seen with
    | bad e => rfl
    | ok n2 s2 =>
      simp only []
      cases rulesE b.row <;> rfl
  · rfl
end Tm
def ItemsOut (V : World) (cb tb mb : Nat) (ts seen : List Tm.Wd) (r : Tm.Res) (e : Ending) (w' : World) : Prop := match r with
  | .bad n => Below V.heap.size V w' ∧ ∃ g p : Nat, e = thrownT g ∧ RowAt w' g 0 122 [.int .i64 (n : Nat), .int .i64 (p : Nat)]
  | .ok ns' _ => e = .returned (.tuple #[]) ∧ ∃ sa sc, ItS V w' cb tb mb ts ns' seen sa sc
def ItemsC (l : Tm.Its) : Prop := ∀ (V w : World) (rb cap cb tb mb sc : Nat) (ga sa : Option Addr) (bs : List Value) (ts ns seen : List Tm.Wd), ItV V w rb l ga cap bs → ItS V w cb tb mb ts ns seen sa sc → ns.length + Tm.Its.sz l ≤ 100000 → seen.length + Tm.Its.sz l ≤ 100000 → Tm.Its.len l ≤ 100000 → Tm.FineI l → Tm.FewX l →
  Calls Tryz.prog 58 #[.pointer (some ⟨cb, 0, none⟩), .slice ga (Tm.Its.len l) cap] w (ItemsOut V cb tb mb ts seen (Tm.itemsE ts l ns seen))
end Go.Proofs.YtlomecfhobehnaaGreatDoor
end
section
/- layout's reader: one of any item; what items' loop holds. -/
namespace Go.Proofs.YtlomecfhobehnaaGreatDoor
open Go Go.RowKit Go.Maps Go.WideElems Go.ChangeMaps Go.WideMaps
set_option linter.unusedVariables false
set_option linter.unusedSimpArgs false
open Rd
open Ly
/-! ## values -/
theorem sgn_range {n wd : Nat} (h : wd = 1 ∨ wd = 2 ∨ wd = 4 ∨ wd = 8) : Ex.InR (sgnI n wd) := by
  unfold Ex.InR sgnI unsN
  rcases h with rfl | rfl | rfl | rfl <;> (simp only [Nat.reducePow, Nat.reduceDiv]; split <;> omega)
theorem val_range {w u : Tm.Wd} (h : (Tm.kindOf w).isSome = true) : Ex.InR (valW w u) := by
  obtain ⟨h1, h2, h3⟩ := word_ok h
  unfold valW
  split
  · exact sgn_range h1
  · rename_i hs
    have h4 := h3 (by simpa using hs)
    have h5 := val_lt4 (getN_lt u 0 (widW w) (ordW w) (widW w)) h4
    unfold Ex.InR
    omega
theorem one_val {S : Sub} {s : Tm.Wd} {N : Ex.Names} {h : Tm.Hd} {st st' : St} {d : Nd} {wd : Tm.Wd} (hk : h.k = .scalar wd) (hkw : (Tm.kindOf wd).isSome = true) (ho : oneH S s N h st = some (d, st')) : Ex.InR d.val := by
  unfold oneH at ho
  rw [hk] at ho
  cases hn : nod st with
  | none => rw [hn] at ho; cases ho
  | some st1 =>
    rw [hn] at ho
    simp only [Option.bind_some] at ho
    cases ht : tak s (widW wd : Nat) st1 with
    | none => rw [ht] at ho; cases ho
    | some p =>
      rw [ht] at ho
      simp only [Option.map_some, Option.some.injEq, Prod.mk.injEq] at ho
      obtain ⟨rfl, _⟩ := ho
      exact val_range hkw
/-! ## a step of items, in plain words -/
namespace Ly
theorem its_hd {S : Sub} {s : Tm.Wd} {h : Tm.Hd} {r : Tm.Its} {N : Ex.Names} {st st2 : St} {d : Nd} (hh : hdR S s N h st = some (d, st2)) : itsR S s (.cons h r) N st = (itsR S s r (if Tm.single h then upd N h.name d.val else N) st2).map fun q => (d.put q.1, q.2) := by
  show (hdR S s N h st).bind _ = _
  rw [hh]
  rfl
theorem its_hd_bad {S : Sub} {s : Tm.Wd} {h : Tm.Hd} {r : Tm.Its} {N : Ex.Names} {st : St} (hh : hdR S s N h st = none) : itsR S s (.cons h r) N st = none := by
  show (hdR S s N h st).bind _ = _
  rw [hh]
  rfl
theorem its_when {S : Sub} {s : Tm.Wd} {a : Nat} {c : Ex.X} {b r : Tm.Its} {N : Ex.Names} {st : St} : itsR S s (.when a c b r) N st = (whenR S s N c b st).bind fun p => (itsR S s r p.2.1 p.2.2).map fun q => (p.1.put q.1, q.2) := by
  show (nod st).bind _ = _
  unfold whenR
  cases nod st with
  | none => rfl
  | some st1 =>
    simp only [Option.bind_some]
    cases Ex.ev N c with
    | none => rfl
    | some v =>
      simp only [Option.bind_some]
      cases (if v = 0 then some (Nds.nil, N, st1) else itsR S s b N st1) with
      | none => rfl
      | some p => rfl
end Ly
/-! ## a store in the names -/
theorem wpList_storeM (w : World) {ops : Array Oper} {rest : List Oper} {o : Oper} {a : Act} {Q : Exit → Act → World → Prop}
    (hg : o.guard = none) (m x v : Operand) (hop : o.op = Op.mapUpdate 103 m x v)
    (b n : Nat) (N : Ex.Names) (hm : a.eval m = .map (some b)) (h : NmM w b n N) (hn : n < maxLen) (s : Tm.Wd) (hs : s.length ≤ 1000) (y : Int) (hy : Ex.InR y) (hx : a.eval x = .string (bstr s)) (hv : a.eval v = .int .i64 y)
    (hK : ∀ w', NmM w' b (n + 1) (upd N s y) → w.grownBy w' (some b) → wpList Tryz.prog ops Q rest (a.put o.dst undef) w') :
    wpList Tryz.prog ops Q (o :: rest) a w := by
  refine wpList_plain hg fun K' hK' => ?_
  obtain ⟨w', hrun, r1, r2⟩ := h.store hn s hs y hy
  unfold Oper.wp
  simp [execOp, hop, hm, hx, hv, hrun, Result.andThen]
  exact hK' _ _ (hK w' r1 r2)
/-! ## one of an item that is no 'when' -/
/-- the structs that an item may be of -/
def SubS (A : List Tm.Ty) (S : Sub) (s : Tm.Wd) (nm : Tm.Wd) : Prop := ∃ t ∈ A, t.name = nm ∧ t.name.length ≤ 100000 ∧ ∃ S', (∀ st, S t.name st = (itsR S' s t.items (fun _ => none) st).map fun p => (p.1, p.2.2)) ∧ ItsRd A S' s t.items
theorem RdE.ne {U w : World} {rb fb b m n : Nat} {A : List Tm.Ty} {s : Tm.Wd} {N : Ex.Names} {st : St} (h : RdE U w rb fb b m n A s N st) : fb ≠ b ∧ m ≠ b := ⟨h.form.ne h.lr.row, h.nm.ne h.lr.row⟩
/-- behind a call that left the names alone -/
theorem RdE.one {U w w' : World} {rb fb b m n : Nat} {A : List Tm.Ty} {s : Tm.Wd} {N : Ex.Names} {st st' : St} (h : RdE U w rb fb b m n A s N st) (hb : But w w' b none) (hl : LR w' b (.map (some fb)) s st') (hn : st.n ≤ st'.n) : RdE U w' rb fb b m n A s N st' :=
  ⟨But.below h.bel hb h.bel.size h.bU (fun x e => by cases e), h.bU, h.mU, h.fm, h.form.keep (hb.block fb h.form.lt h.ne.1 (fun e => by cases e)), hl, h.nm.keep (hb.block m h.nm.lt h.ne.2 (fun e => by cases e)), by have := h.few; omega⟩
theorem RdE.all {U w w' : World} {rb fb b m n n' : Nat} {A : List Tm.Ty} {s : Tm.Wd} {N N' : Ex.Names} {st st' : St} (h : RdE U w rb fb b m n A s N st) (hb : But w w' b (some m)) (hl : LR w' b (.map (some fb)) s st') (hN : NmM w' m n' N') (hn : n' ≤ st'.n) : RdE U w' rb fb b m n' A s N' st' :=
  ⟨But.below h.bel hb h.bel.size h.bU (fun x e => by cases e; exact h.mU), h.bU, h.mU, h.fm, h.form.keep (hb.block fb h.form.lt h.ne.1 (fun e => by injection e with e; exact h.fm e)), hl, hN, hn⟩
theorem one_hd (A : List Tm.Ty) (S : Sub) (s : Tm.Wd) (h : Tm.Hd) (hf : Tm.FineH h) (hst : ∀ t, h.k = .struct t → SubS A S s t) (hs : s.length ≤ 1000000) (U w : World) (rb fb b m n : Nat) (N : Ex.Names) (st : St) (g o : Nat) (cv : Value) (hE : RdE U w rb fb b m n A s N st)
    (hr : RowAt w g o 70 (Tm.hdCells h cv)) (hcv : Tm.CntV U rb h.cnt cv) (w' : World) (st' : St) (hb : But w w' b none) (hl : LR w' b (.map (some fb)) s st') :
    Calls Tryz.prog 30 #[.pointer (some ⟨b, 0, none⟩), .pointer (some ⟨g, o, none⟩), .map (some m)] w' (OneOut w' b none (.map (some fb)) s st' (oneH S s N h st')) := by
  have hgb : g ≠ b := by
    rintro rfl
    exact absurd (hr.ty hE.lr.row) (by decide)
  have hr' : RowAt w' g o 70 (Tm.hdCells h cv) := hr.of_heap (hb.block g hr.lt hgb (fun e => by cases e))
  have hbel := But.below hE.bel hb hE.bel.size hE.bU (fun x e => by cases e)
  have hfm := hE.form.keep (hb.block fb hE.form.lt hE.ne.1 (fun e => by cases e))
  have hnm := hE.nm.keep (hb.block m hE.nm.lt hE.ne.2 (fun e => by cases e))
  cases hk : h.k with
  | scalar wd => exact one_scalar b _ _ s wd g o st' S N h cv w' hl hgb hs hk (by have := hf.1; rw [hk] at this; exact this) hr'
  | bytes =>
    have hne := hf.2.2.2.2.1 hk
    cases hc : h.cnt with
    | none => exact absurd hc hne
    | some c =>
      rw [hc] at hcv
      obtain ⟨cb, rfl, hx⟩ := hcv
      exact one_bytes b m n rb cb _ s g o st' S N h c U w' hl hgb hs hk hc (hf.2.2.1 c hc).1.1 hbel hE.bU hx hnm hE.ne.2 hr'
  | struct t =>
    obtain ⟨ty, h1, h2, h3, S', h4, h5⟩ := hst t hk
    rw [← h2] at hk
    exact one_struct A S S' s ty h1 h4 h5 h3 b rb fb _ cv g o st' N h U w' hl hbel hE.bU hfm hs hk hr'
/-! ## items' loop -/
structure LoS (U w0 w : World) (rb fb b m n : Nat) (A : List Tm.Ty) (S : Sub) (s : Tm.Wd) (l : Tm.Its) (N0 : Ex.Names) (st0 : St) (i : Nat) (N : Ex.Names) (st2 : St) (ks : Nds) (ga : Option Addr) (cap : Nat) (bl : List Nat) (vs : List Value) : Prop where
  but : But w0 w b (some m)
  rd : RdE U w rb fb b m n A s N st2
  blt : b < w0.heap.size
  mlt : m < w0.heap.size
  kv : KidsV w w0.heap.size ks ga cap bl vs
  len : ks.len = i
  rep : itsR S s l N0 st0 = (itsR S s (l.drop i) N st2).map fun q => (ks.app q.1, q.2)
  at_ : st0.at_ ≤ st2.at_
  few : st0.n + i ≤ st2.n
section
variable {U w0 w w4 w5 : World} {rb fb b m n n4 : Nat} {A : List Tm.Ty} {S : Sub} {s : Tm.Wd} {l : Tm.Its} {N0 N N4 : Ex.Names} {st0 st2 st4 : St} {i cap cap' : Nat} {ks : Nds} {ga ga' : Option Addr} {bl b1 : List Nat} {vs cs : List Value} {d : Nd}
theorem LoS.start (h : RdE U w rb fb b m n A s N st2) : LoS U w w rb fb b m n A S s l N st2 0 N st2 .nil none 0 [] [] :=
  ⟨But.refl _ _ _, h, h.lr.row.lt, h.nm.lt, KidsV.nil _ _, rfl, by
    show itsR S s l N st2 = Option.map _ (itsR S s (l.drop 0) N st2)
    rw [show l.drop 0 = l by cases l <;> rfl]
    cases itsR S s l N st2 with
    | none => rfl
    | some q => rfl, Nat.le_refl _, by omega⟩
theorem LoS.push (h : LoS U w0 w rb fb b m n A S s l N0 st0 i N st2 ks ga cap bl vs) (hstep : itsR S s (l.drop i) N st2 = (itsR S s (l.drop (i + 1)) N4 st4).map fun q => (d.put q.1, q.2)) (hb : But w w4 b (some m)) (hl : LR w4 b (.map (some fb)) s st4) (hN : NmM w4 m n4 N4) (hn4 : n4 ≤ st4.n)
    (hd : NdV w4 w.heap.size b1 d (.agg cs.toArray)) (hnd : b1.Nodup) (hat : st2.at_ ≤ st4.at_) (hfew : st2.n < st4.n) (ho : Owns w5 w0.heap.size 28 7 ga' (i + 1) cap' (vs ++ cs)) (hg : w4.grownBy w5 (blk ga)) (hloc : ∀ x, ga' = some x → ga = some x ∨ w4.heap.size < x.block) :
    LoS U w0 w5 rb fb b m n4 A S s l N0 st0 (i + 1) N4 st4 (ks.app (d.put .nil)) ga' cap' (bl ++ b1) (vs ++ cs) := by
  have hsz := h.but.size
  have hsz4 := hb.size
  have hbl := h.blt
  have hml := h.mlt
  have hga : ∀ x, ga = some x → w0.heap.size ≤ x.block := fun x hx => (h.kv.mem x.block (by rw [hx]; simp [blkL])).1
  have far : ∀ g, g < w4.heap.size → g < w0.heap.size → w5.heap[g]? = w4.heap[g]? := fun g h1 h2 => hg.block g h1 (fun e => by
    cases ha : ga with
    | none => rw [ha] at e; simp [blk] at e
    | some x => rw [ha] at e; simp only [blk, Option.map_some] at e; injection e with e; have := hga x ha; omega)
  have hrd4 := h.rd.all hb hl hN hn4
  have hU := hrd4.bel
  have hbU := hrd4.bU
  have hfl := hrd4.form.lt
  have hff : w5.heap[fb]? = w4.heap[fb]? := by
    refine hg.block fb hfl (fun e => ?_)
    cases ha : ga with
    | none => rw [ha] at e; simp [blk] at e
    | some x =>
      rw [ha] at e; simp only [blk, Option.map_some] at e; injection e with e
      have hkk : RowAt w x.block 0 28 vs := by have := h.kv.own; rw [ha] at this; exact this.row.2.2.2.2
      have := h.rd.form.ne hkk
      omega
  have hbb := h.but.trans hb
  refine ⟨⟨hg.os.trans hbb.os, hg.tape.trans hbb.tape, hg.output.trans hbb.output, Nat.le_trans hbb.size hg.size, fun g h1 h2 h3 => (far g (by have := hbb.size; omega) h1).trans (hbb.block g h1 h2 h3)⟩, ⟨hU.trans ⟨hg.os, hg.tape, hg.output, hg.size, fun g h1 => far g (by have := hU.size; omega) (by omega)⟩, hrd4.bU, hrd4.mU, hrd4.fm, hrd4.form.keep hff, hrd4.lr.keep (far b hrd4.lr.row.lt hbl), hrd4.nm.keep (far m hrd4.nm.lt hml), hn4⟩, hbl, hml,
    h.kv.push (fun g h1 h2 => hb.block g h2 (by omega) (fun e => by injection e with e; omega)) hd hnd hsz hsz4 (by rw [h.len]; exact ho) hg hloc, by rw [Nds.len_app, h.len]; rfl, ?_, by have := h.at_; omega, by have := h.few; omega⟩
  rw [h.rep, hstep]
  cases itsR S s (l.drop (i + 1)) N4 st4 with
  | none => rfl
  | some q => show some (ks.app (d.put q.1), q.2) = some ((ks.app (d.put .nil)).app q.1, q.2); rw [app_put]
end
end Go.Proofs.YtlomecfhobehnaaGreatDoor
end
