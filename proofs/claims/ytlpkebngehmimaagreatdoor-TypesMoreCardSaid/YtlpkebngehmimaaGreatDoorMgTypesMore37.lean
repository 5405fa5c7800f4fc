/- Contract of expr.Names. -/
import Derived.Deep.RegionHeld3
import Derived.Deep.AppendLies
import Derived.RegionTactic
import Derived.Laws.OwnMore
import Derived.Deep.RegionLaw
import Derived.Test.YtlpkebngehmimaaGreatDoorMgTypesMore2
import Derived.Test.YtlpkebngehmimaaGreatDoorMgTypesMore36
section
/- append(s, t...) where s is of the call's own and t is read; a shorter slice of the call's own. No program in sight. -/
namespace Go.Proofs.YtlpkebngehmimaaGreatDoor
open Go.RowKit
set_option linter.unusedVariables false
set_option linter.unusedSimpArgs false
theorem Owns.cutTo {w : World} {B : Nat} {e : TypeId} {size : Nat} {a : Option Addr} {n cap : Nat} {xs : List Value} (h : Owns w B e size a n cap xs) (m : Nat) (hm : m ≤ n) : Owns w B e size a m cap (xs.take (m * size)) := by
  have hl := h.len
  cases a with
  | none =>
    obtain ⟨h1, h2, h3⟩ := h.of_none
    subst h1 h2 h3
    obtain rfl : m = 0 := by omega
    simpa using Owns.nil w B e size
  | some x =>
    rcases h.2 with ⟨h1, _⟩ | ⟨g, cp, cur, h1, h2, h3, h4, h5, h6, h7⟩
    · cases h1
    · cases h1
      refine ⟨by rw [List.length_take, hl]; exact Nat.min_eq_left (Nat.mul_le_mul_right _ hm), .inr ⟨g, cap, cur, rfl, h2, h3, by omega, h5, h6, ?_⟩⟩
      rw [← h7, List.take_take, Nat.min_eq_left (Nat.mul_le_mul_right _ hm)]
/-- a slice that is read, cell by cell -/
def ReadsC (w : World) (b : Option Addr) (m d : Nat) (size : Nat) (news : List Value) : Prop :=
  news.length = m * size ∧ (∀ u ∈ news, u.oneCell' = true) ∧ (b = none → m = 0 ∧ d = 0) ∧ ∀ y, b = some y → ∀ j u, news[j]? = some u → w.cell? (y.add j) = some u
theorem wpList_appendR {P : Program} (w : World) {ops : Array Oper} {rest : List Oper} {o : Oper} {act : Act} {Q : Exit → Act → World → Prop} (hgd : o.guard = none) (s x : Operand) (t : TypeId)
    (ho : o.op = .call { callee := .builtin .append, args := #[s, x], argTypes := #[t, t] })
    (B : Nat) (e : TypeId) (z : Value) (size bytes : Nat) (ht : P.underlying t = some (.slice e)) (hinf : (P.info? e).map (fun i => (i.zero, i.size, i.bytes)) = some (some z, size, bytes)) (hzs : z.cells.size = size) (hsz : 0 < size)
    (a : Option Addr) (n cap : Nat) (xs : List Value) (hs : act.eval s = .slice a n cap) (hown : Owns w B e size a n cap xs)
    (b : Option Addr) (m d : Nat) (news : List Value) (hx : act.eval x = .slice b m d) (hr : ReadsC w b m d size news)
    (h63 : n + m ≤ maxLen) (hbytes : (n + m) * bytes ≤ 140737488355328) (hbase : B ≤ w.heap.size)
    (h : ∀ a' cap' w', Owns w' B e size a' (n + m) cap' (xs ++ news) → w.grownBy w' (blk a) → Below B w w' → (∀ x, a' = some x → a = some x ∨ w.heap.size ≤ x.block) → wpList P ops Q rest (act.put o.dst (.slice a' (n + m) cap')) w') :
    wpList P ops Q (o :: rest) act w := by
  obtain ⟨i, hi, hz, hsize, hby⟩ := info_parts hinf
  obtain ⟨r1, r2, r3, r4⟩ := hr
  cases b with
  | none =>
    obtain ⟨q1, q2⟩ := r3 rfl
    subst q1 q2
    have hn : news = [] := List.eq_nil_of_length_eq_zero (by simpa using r1)
    subst hn
    refine wpList_append_own_none (w := w) hgd s x t ho B e i size ht hi _ n xs hs hown hx ?_
    have := h a cap w (by rw [List.append_nil]; exact hown) (World.grownBy.refl w _) (Below.refl _ _) (fun x hx => .inl hx)
    exact this
  | some y =>
    refine wpList_append_own_at w hgd s x t ho B e i z size bytes ht hi hz hsize hby hzs hsz (.slice a n cap) n xs hs hown y m d news hx r1 (r4 y rfl) r2 h63 hbytes hbase ?_
    intro v' w' hown' hgrow hnil hloc
    have hex : ∃ a' cap', v' = .slice a' (n + m) cap' := by
      rcases hown'.2 with ⟨h1, h2⟩ | ⟨g, cap', cur, h2, _⟩
      · exact ⟨none, 0, by rw [h1, h2]⟩
      · exact ⟨_, cap', h2⟩
    obtain ⟨a', cap', hv⟩ := hex
    rw [hv] at hown' hloc ⊢
    rw [ownBlock_eq] at hgrow
    refine h a' cap' w' hown' hgrow ?_ ?_
    · refine (Below.refl B w).grown hgrow hbase ?_
      intro k hk
      cases ha : a with
      | none => rw [ha] at hk; simp [blk] at hk
      | some z =>
        rw [ha] at hk
        subst ha
        have := (Owns.row hown).2.1
        simp [blk] at hk
        omega
    · intro z hz
      subst hz
      rcases hloc with hloc | hloc
      · left
        rw [ownBlock_eq, ownBlock_eq] at hloc
        cases ha : a with
        | none => rw [ha] at hloc; simp [blk] at hloc
        | some y =>
          rw [ha] at hloc
          subst ha
          have hr := Owns.row hown
          have hr' := Owns.row hown'
          simp [blk] at hloc
          rw [hr.1, hr'.1, hloc]
      · right
        rw [ownBlock_eq] at hloc
        simp [blk] at hloc
        omega
end Go.Proofs.YtlpkebngehmimaaGreatDoor
end
section
/- Append to a slice of the call's own inside a region that draws its order. No program in sight. -/
namespace Go.Proofs.YtlpkebngehmimaaGreatDoor
open Go.RowKit
set_option linter.unusedVariables false
set_option linter.unusedSimpArgs false
theorem step_pushN {P : Program} (w : World) {ops : Array Oper} {o : Oper} {act : Act} {K : Act → World → Prop} {Q : Exit → Act → World → Prop} {E : Prop} (hgd : o.guard = none) (s x : Operand) (t : TypeId)
    (ho : o.op = .call { callee := .builtin .append, args := #[s, x], argTypes := #[t, t] })
    (B : Nat) (e : TypeId) (z : Value) (size bytes : Nat) (ht : P.underlying t = some (.slice e)) (hinf : (P.info? e).map (fun i => (i.zero, i.size, i.bytes)) = some (some z, size, bytes)) (hzs : z.cells.size = size) (hsz : 0 < size)
    (a : Option Addr) (n cap : Nat) (xs : List Value) (hs : act.eval s = .slice a n cap) (hown : Owns w B e size a n cap xs)
    (g m c : Nat) (hm : 0 < m) (news : List Value) (hl : news.length = m * size) (h1 : ∀ u ∈ news, u.oneCell' = true) (hx : act.eval x = .slice (some ⟨g, 0, none⟩) m c) (hrow : RowAt w g 0 e news)
    (h63 : n + m ≤ maxLen) (hbytes : (n + m) * bytes ≤ 140737488355328) (hbase : B ≤ w.heap.size)
    (h : ∀ a' cap' w', Owns w' B e size a' (n + m) cap' (xs ++ news) → w.grownBy w' (blk a) → (∀ x, a' = some x → a = some x ∨ w.heap.size ≤ x.block) → (∃ g, a' = some ⟨g, 0, none⟩) → K (act.put o.dst (.slice a' (n + m) cap')) w') :
    if Region.wanted o (yielded ops act.tmps) = true then Oper.wp P o act w K Q else E := by
  obtain ⟨i, hi, hz, hsize, hby⟩ := info_parts hinf
  have hnews : ∀ j u, news[j]? = some u → w.cell? ((⟨g, 0, none⟩ : Addr).add j) = some u := by
    intro j u hj
    have hadd : (⟨g, 0, none⟩ : Addr).add j = ⟨g, j, none⟩ := by unfold Addr.add; split <;> simp_all
    rw [hadd]
    have hlt : j < news.length := by
      rcases Nat.lt_or_ge j news.length with h | h
      · exact h
      · rw [List.getElem?_eq_none h] at hj; cases hj
    rw [hrow.cell0 j hlt, ← hj, List.getElem?_eq_getElem hlt]
  refine step_append_lies w hgd s x t ho B e i z size bytes ht hi hz hsize hby hzs hsz (.slice a n cap) n xs hs hown ⟨g, 0, none⟩ m c news hx hl hnews h1 hm h63 hbytes hbase _ rfl ?_
  intro gg cap' w' hown' hgrow hat hlt
  refine h (some ⟨gg, 0, none⟩) cap' w' hown' ?_ ?_ ⟨gg, rfl⟩
  · rw [ownBlock_eq] at hgrow; exact hgrow
  · intro y hy
    cases hy
    rcases hat with hloc | hloc
    · left
      rw [ownBlock_eq] at hloc
      cases ha : a with
      | none => rw [ha] at hloc; simp [blk] at hloc
      | some y =>
        rw [ha] at hloc
        subst ha
        have hr := Owns.row hown
        simp [blk] at hloc
        rw [hr.1, hloc]
    · right
      show w.heap.size ≤ gg
      omega
/-- a guard for an arm: the next operation is an append of two slices -/
theorem at_app {P : Program} {ops : Array Oper} {act : Act} {w : World} {K : Act → World → Prop} {Q : Exit → Act → World → Prop} {E : Prop} {d : Option Nat} {s x : Operand} {t ty : TypeId} {pos : String} {af : Array Edge} {gd : Option (Tmp × Bool)}
    (h : if Region.wanted ⟨d, .call { callee := .builtin .append, args := #[s, x], argTypes := #[t, t] }, ty, pos, af, gd⟩ (yielded ops act.tmps) = true then Oper.wp P ⟨d, .call { callee := .builtin .append, args := #[s, x], argTypes := #[t, t] }, ty, pos, af, gd⟩ act w K Q else E) :
    if Region.wanted ⟨d, .call { callee := .builtin .append, args := #[s, x], argTypes := #[t, t] }, ty, pos, af, gd⟩ (yielded ops act.tmps) = true then Oper.wp P ⟨d, .call { callee := .builtin .append, args := #[s, x], argTypes := #[t, t] }, ty, pos, af, gd⟩ act w K Q else E := h
end Go.Proofs.YtlpkebngehmimaaGreatDoor
end
section
/- append(s, t...) inside a region that draws its order; t of any length. No program in sight. -/
namespace Go.Proofs.YtlpkebngehmimaaGreatDoor
open Go.RowKit
set_option linter.unusedVariables false
set_option linter.unusedSimpArgs false
/-- append(s, t...) inside a region that draws its order; t of any length -/
theorem step_appendG {P : Program} (w : World) {ops : Array Oper} {o : Oper} {act : Act} {K : Act → World → Prop} {Q : Exit → Act → World → Prop} {E : Prop} (hgd : o.guard = none) (s x : Operand) (t : TypeId)
    (ho : o.op = .call { callee := .builtin .append, args := #[s, x], argTypes := #[t, t] })
    (B : Nat) (e : TypeId) (z : Value) (size bytes : Nat) (ht : P.underlying t = some (.slice e)) (hinf : (P.info? e).map (fun i => (i.zero, i.size, i.bytes)) = some (some z, size, bytes)) (hzs : z.cells.size = size) (hsz : 0 < size)
    (a : Option Addr) (n cap : Nat) (xs : List Value) (hs : act.eval s = .slice a n cap) (hown : Owns w B e size a n cap xs)
    (b : Option Addr) (m d : Nat) (news : List Value) (hx : act.eval x = .slice b m d) (hr : ReadsC w b m d size news)
    (h63 : n + m ≤ maxLen) (hbytes : (n + m) * bytes ≤ 140737488355328) (hbase : B ≤ w.heap.size)
    (h : ∀ a' cap' w', Owns w' B e size a' (n + m) cap' (xs ++ news) → w.grownBy w' (blk a) → (∀ x, a' = some x → a = some x ∨ w.heap.size ≤ x.block) → K (act.put o.dst (.slice a' (n + m) cap')) w') :
    if Region.wanted o (yielded ops act.tmps) = true then Oper.wp P o act w K Q else E := by
  have hw : Region.wanted o (yielded ops act.tmps) = true := by simp [Region.wanted, hgd]
  rw [if_pos hw]
  obtain ⟨i, hi, hz, hsize, hby⟩ := info_parts hinf
  obtain ⟨r1, r2, r3, r4⟩ := hr
  cases b with
  | none =>
    obtain ⟨q1, q2⟩ := r3 rfl
    subst q1 q2
    have hn : news = [] := List.eq_nil_of_length_eq_zero (by simpa using r1)
    subst hn
    have hrun := run_append_owned_none (P := P) (w := w) B t o.type e i size ht hi (.slice a n cap) n xs hown
    unfold Oper.wp execOp
    simp only [ho, resolve, invoke, builtin, Sem.run_bind, Sem.run_pure, Result.andThen_ok, List.map_toArray, List.map_cons, List.map_nil, hs, hx, hrun]
    exact h a cap w (by rw [List.append_nil]; exact hown) (World.grownBy.refl w _) (fun x hx => .inl hx)
  | some y =>
    obtain ⟨v', w', hrun, hown', hgrow, hnil, hloc⟩ := run_append_own_at (P := P) w B t o.type e i z size bytes ht hi hz hsize hby hzs hsz (.slice a n cap) n xs hown y m d news r1 (r4 y rfl) r2 h63 hbytes hbase
    have hex : ∃ a' cap', v' = .slice a' (n + m) cap' := by
      rcases hown'.2 with ⟨h1, h2⟩ | ⟨g, cap', cur, h2, _⟩
      · exact ⟨none, 0, by rw [h1, h2]⟩
      · exact ⟨_, cap', h2⟩
    obtain ⟨a', cap', hv⟩ := hex
    rw [hv] at hown' hloc hrun
    rw [ownBlock_eq] at hgrow
    unfold Oper.wp execOp
    simp only [ho, resolve, invoke, builtin, Sem.run_bind, Sem.run_pure, Result.andThen_ok, List.map_toArray, List.map_cons, List.map_nil, hs, hx, hrun]
    refine h a' cap' w' hown' hgrow ?_
    intro z hz
    subst hz
    rcases hloc with hloc | hloc
    · left
      rw [ownBlock_eq, ownBlock_eq] at hloc
      cases ha : a with
      | none => rw [ha] at hloc; simp [blk] at hloc
      | some y =>
        rw [ha] at hloc
        subst ha
        have hr := Owns.row hown
        have hr' := Owns.row hown'
        simp [blk] at hloc
        rw [hr.1, hr'.1, hloc]
    · right
      rw [ownBlock_eq] at hloc
      simp [blk] at hloc
      omega
theorem add_rowG (b j : Nat) : (⟨b, 0, none⟩ : Addr).add j = ⟨b, j, none⟩ := by unfold Addr.add; split <;> simp_all
theorem Owns.readsG {w : World} {B : Nat} {e : TypeId} {size : Nat} {a : Option Addr} {n cap : Nat} {L : List Value} (h : Owns w B e size a n cap L) (h1 : ∀ u ∈ L, u.oneCell' = true) : ReadsC w a n cap size L := by
  refine ⟨h.len, h1, ?_, ?_⟩
  · intro e; subst e
    exact ⟨h.of_none.1, h.of_none.2.1⟩
  · intro y hy j u hj
    subst hy
    obtain ⟨h1, _, _, _, h5⟩ := h.row
    have hjl : j < L.length := by
      rcases Nat.lt_or_ge j L.length with h | h
      · exact h
      · rw [List.getElem?_eq_none h] at hj; cases hj
    rw [h1]
    rw [add_rowG, h5.cell0 j hjl, ← List.getElem?_eq_getElem hjl, hj]
end Go.Proofs.YtlpkebngehmimaaGreatDoor
end
section
/- Contract of expr.Names. -/
namespace Go.Proofs.YtlpkebngehmimaaGreatDoor
open Go.RowKit
set_option linter.unusedVariables false
set_option linter.unusedSimpArgs false
open Rd
/-- names by their nodes: block, place, name -/
abbrev Nm := Nat × Nat × Tm.Wd
def nmVals (N : List Nm) : List Value := N.map fun t => .pointer (some ⟨t.1, 0, none⟩)
theorem nmVals_app (N M : List Nm) : nmVals N ++ nmVals M = nmVals (N ++ M) := by simp [nmVals]
theorem nmVals_one (N : List Nm) : ∀ u ∈ nmVals N, u.oneCell' = true := by
  intro u hu
  simp only [nmVals, List.mem_map] at hu
  obtain ⟨z, _, rfl⟩ := hu
  rfl
theorem infoPtrX : (Tryz.prog.info? 86).map (fun i => (i.zero, i.size, i.bytes)) = some (some (.pointer none), 1, 8) := by kernel_rfl
def NamesOut (V : World) (rb B : Nat) (ns : List Tm.Wd) (e : Ending) (w' : World) : Prop := ∃ (a : Option Addr) (cap : Nat) (N : List Nm), e = .returned (.slice a N.length cap) ∧ (∀ W, Below w'.heap.size w' W → Owns W B 86 1 a N.length cap (nmVals N)) ∧ (∀ t ∈ N, IsX V rb t.1 (.name t.2.1 t.2.2)) ∧ N.map (fun t => t.2.2) = ns
def NamesC (x : Ex.X) : Prop := ∀ (V w : World) (rb b B : Nat), IsX V rb b x → Below V.heap.size V w → (Tm.namesX x).length ≤ 100000 → B ≤ w.heap.size →
  Calls Tryz.prog 84 #[.pointer (some ⟨b, 0, none⟩)] w fun e w' => NamesOut V rb B (Tm.namesX x) e w' ∧ Below w.heap.size w w'
set_option maxRecDepth 100000 in
theorem names_nil (w : World) : Calls Tryz.prog 84 #[.pointer none] w fun e w' => e = .returned (.slice none 0 0) ∧ w' = w := by
  go_enter Tryz.func84, Tryz.ntmps84
  go_wp2_with fail
  go_ret
  exact ⟨rfl, rfl⟩
set_option maxRecDepth 100000 in
theorem names_name (a : Nat) (s : Tm.Wd) : NamesC (.name a s) := by
  intro V w rb b B hx hb hl hB
  have c0 := (hx.2.below hb hx.2.lt).cell0 0 (by simp)
  simp only [List.getElem_cons_zero] at c0
  have HX := Lib.hid hx; have HB := Lib.hid hB
  clear hx hb hl hB
  go_enter Tryz.func84, Tryz.ntmps84
  go_wp2_with fail
  go_ret
  refine ⟨⟨some ⟨w.heap.size, 0, none⟩, 1, [(b, a, s)], rfl, fun W hW => ?_, fun t ht => ?_, rfl⟩, (Below.refl _ _).alloc (Nat.le_refl _) _⟩
  · have hrow := (Owns.of_row (n := 1) (cap := 1) (size := 1) (xs := nmVals [(b, a, s)]) (e := 86) (B := B) rfl (w.alloc (.cells (nmVals [(b, a, s)]).toArray 86)) w.heap.size (nmVals [(b, a, s)]).toArray HB.out (heap_alloc_new w _) rfl (Nat.le_refl _) (by decide) rfl)
    exact hrow.below hW (Nat.le_refl _)
  · rw [List.mem_singleton] at ht; subst ht; exact HX.out
/-- in a node with two parts, since w -/
abbrev NS (V w : World) (b : Nat) (pl pr : Option Addr) (w1 : World) : Prop := w1.cell? ⟨b, 5, none⟩ = some (.pointer pl) ∧ w1.cell? ⟨b, 6, none⟩ = some (.pointer pr) ∧ Below V.heap.size V w1 ∧ Below w.heap.size w w1
theorem NS.up {V w w1 w2 : World} {b : Nat} {pl pr : Option Addr} (h : NS V w b pl pr w1) (hbv : b < V.heap.size) (h2 : Below w1.heap.size w1 w2) : NS V w b pl pr w2 := by
  have h3 := h.2.2.1.trans (h2.mono h.2.2.1.size)
  exact ⟨(h3.cell (p := ⟨b, 5, none⟩) hbv).trans ((h.2.2.1.cell (p := ⟨b, 5, none⟩) hbv).symm.trans h.1), (h3.cell (p := ⟨b, 6, none⟩) hbv).trans ((h.2.2.1.cell (p := ⟨b, 6, none⟩) hbv).symm.trans h.2.1), h3, h.2.2.2.trans (h2.mono h.2.2.2.size)⟩
theorem NS.drew {V w w1 : World} {b : Nat} {pl pr : Option Addr} (h : NS V w b pl pr w1) : NS V w b pl pr w1.drew := ⟨h.1, h.2.1, h.2.2.1.drew, h.2.2.2.drew⟩
theorem NS.app {V w w1 w2 : World} {b : Nat} {pl pr a : Option Addr} {n cap : Nat} {xs : List Value} (h : NS V w b pl pr w1) (hbv : b < V.heap.size) (hvw : V.heap.size ≤ w.heap.size) (ho : Owns w1 w.heap.size 86 1 a n cap xs) (hg : w1.grownBy w2 (blk a)) : NS V w b pl pr w2 := by
  have h4 := below_blk h.2.2.2 ho (Nat.le_refl _) h.2.2.2.size hg
  have h3 := below_blk h.2.2.1 ho hvw h.2.2.1.size hg
  exact ⟨(h3.cell (p := ⟨b, 5, none⟩) hbv).trans ((h.2.2.1.cell (p := ⟨b, 5, none⟩) hbv).symm.trans h.1), (h3.cell (p := ⟨b, 6, none⟩) hbv).trans ((h.2.2.1.cell (p := ⟨b, 6, none⟩) hbv).symm.trans h.2.1), h3, h4⟩
theorem nm_small {NL NR : List Nm} {nl nr : List Tm.Wd} (h1 : NL.map (fun t => t.2.2) = nl) (h2 : NR.map (fun t => t.2.2) = nr) (h : nl.length + nr.length ≤ 100000) : NL.length + NR.length ≤ maxLen ∧ (NL.length + NR.length) * 8 ≤ 140737488355328 := by
  have e1 := congrArg List.length h1
  have e2 := congrArg List.length h2
  rw [List.length_map] at e1 e2
  refine ⟨?_, by omega⟩
  show NL.length + NR.length ≤ 9223372036854775807
  omega
set_option maxRecDepth 100000 in
set_option maxHeartbeats 4000000 in
theorem names_bin (a : Nat) (op : Tm.Wd) (l r : Ex.X) (hL : NamesC l) (hR : NamesC r) : NamesC (.bin a op l r) := by
  intro V w rb b B hx hb hl hB
  obtain ⟨bl, br, h1, h2, h3, h4⟩ := hx
  have hnx : Tm.namesX (.bin a op l r) = Tm.namesX l ++ Tm.namesX r := rfl
  rw [hnx] at hl ⊢
  rw [List.length_append] at hl
  have hr2 := h2.below hb h2.lt
  have c0 := hr2.cell0 0 (by simp); have c5 := hr2.cell0 5 (by simp); have c6 := hr2.cell0 6 (by simp)
  simp only [List.getElem_cons_zero, List.getElem_cons_succ] at c0 c5 c6
  have hS0 : NS V w b (some ⟨bl, 0, none⟩) (some ⟨br, 0, none⟩) w := ⟨c5, c6, hb, Below.refl _ _⟩
  have hbv := h2.lt
  have HL := Lib.hid (fun W (hW : NS V w b (some ⟨bl, 0, none⟩) (some ⟨br, 0, none⟩) W) => hL V W rb bl w.heap.size h3 hW.2.2.1 (by omega) hW.2.2.2.size)
  have HR := Lib.hid (fun W (hW : NS V w b (some ⟨bl, 0, none⟩) (some ⟨br, 0, none⟩) W) => hR V W rb br w.heap.size h4 hW.2.2.1 (by omega) hW.2.2.2.size)
  unfold NamesOut at HL HR
  have HBV := Lib.hid hbv; have HVW := Lib.hid hb.size; have HB := Lib.hid hB; have HLEN := Lib.hid hl
  generalize Tm.namesX l = nl at *
  generalize Tm.namesX r = nr at *
  clear h1 h2 h3 h4 hr2 hL hR hnx hbv hb hl hB
  go_enter Tryz.func84, Tryz.ntmps84
  go_wp2_with fail
  go_region_held3 (fun w1 => w1.cell? ⟨b, 5, none⟩ = some (.pointer (some ⟨bl, 0, none⟩)) ∧ w1.cell? ⟨b, 6, none⟩ = some (.pointer (some ⟨br, 0, none⟩)) ∧ Below V.heap.size V w1 ∧ Below w.heap.size w w1)
    (first
      | exact hS0
      | exact NS.drew (by assumption)
      | assumption)
    (first
      | (go_at_call 84; (with_reducible refine (HL.out _ ?_).mono ?_); (next => (first | assumption | exact hS0)); (rintro e w9 ⟨⟨aL, cL, NL, rfl, hoL, hxL, hnL⟩, hbL⟩); (have hSL : NS V w b (some ⟨bl, 0, none⟩) (some ⟨br, 0, none⟩) w9 := NS.up (by first | assumption | exact hS0) HBV.out hbL))
      | (go_at_call 84; (with_reducible refine (HR.out _ ?_).mono ?_); (next => (first | assumption | exact hS0)); (rintro e w8 ⟨⟨aR, cR, NR, rfl, hoR, hxR, hnR⟩, hbR⟩); (have hSR : NS V w b (some ⟨bl, 0, none⟩) (some ⟨br, 0, none⟩) w8 := NS.up (by first | assumption | exact hS0) HBV.out hbR))
      | ((with_reducible refine at_app ?_); refine step_appendG _ (by rfl) _ _ 166 (by rfl) w.heap.size 86 (.pointer none) 1 8 Tryz.underlying166 infoPtrX rfl (by decide) aL NL.length cL _ (by rfl) (hoL _ ?_) aR NR.length cR _ (by rfl) (Owns.readsG (hoR _ ?_) (nmVals_one _)) (nm_small hnL hnR HLEN.out).1 (nm_small hnL hnR HLEN.out).2 ?_ ?_; (next => first | exact Below.refl _ _ | assumption); (next => first | exact Below.refl _ _ | assumption); (next => first | exact hSL.2.2.2.size | exact hSR.2.2.2.size); (intro a4 c4 w4 ho4 hg4 hl4); (have hS4 : NS V w b (some ⟨bl, 0, none⟩) (some ⟨br, 0, none⟩) w4 := by first | exact NS.app hSR HBV.out HVW.out (hoL _ (by first | exact Below.refl _ _ | assumption)) hg4 | exact NS.app hSL HBV.out HVW.out (hoL _ (by first | exact Below.refl _ _ | assumption)) hg4)))
  all_goals
    go_wp2_with fail
    go_ret
    refine ⟨⟨a4, c4, NL ++ NR, ?_, fun W hW => ?_, fun t ht => ?_, ?_⟩, hS4.2.2.2⟩
    · rw [List.length_append]; rfl
    · rw [List.length_append, ← nmVals_app]
      exact (ho4.below hW (Nat.le_refl _)).mono HB.out
    · rcases List.mem_append.1 ht with h | h
      · exact hxL t h
      · exact hxR t h
    · rw [List.map_append, hnL, hnR]
set_option maxRecDepth 100000 in
set_option maxHeartbeats 4000000 in
theorem names_num (a n : Nat) : NamesC (.num a n) := by
  intro V w rb b B hx hb hl hB
  have hr2 := hx.2.below hb hx.2.lt
  have c0 := hr2.cell0 0 (by simp); have c5 := hr2.cell0 5 (by simp); have c6 := hr2.cell0 6 (by simp)
  simp only [List.getElem_cons_zero, List.getElem_cons_succ] at c0 c5 c6
  have HN := Lib.hid names_nil
  have hS0 : NS V w b none none w := ⟨c5, c6, hb, Below.refl _ _⟩
  have HBV := Lib.hid hx.2.lt; have HVW := Lib.hid hb.size; have HB := Lib.hid hB
  clear hx hb hl hB hr2
  go_enter Tryz.func84, Tryz.ntmps84
  go_wp2_with fail
  go_region_held3 (fun w1 => w1.cell? ⟨b, 5, none⟩ = some (.pointer none) ∧ w1.cell? ⟨b, 6, none⟩ = some (.pointer none) ∧ Below V.heap.size V w1 ∧ Below w.heap.size w w1)
    (first
      | exact hS0
      | exact NS.drew (by assumption)
      | assumption)
    (first
      | (go_at_call 84; (with_reducible refine (HN.out _).mono ?_); (rintro e w9 ⟨rfl, rfl⟩))
      | ((with_reducible refine at_app ?_); refine step_appendG _ (by rfl) _ _ 166 (by rfl) w.heap.size 86 (.pointer none) 1 8 Tryz.underlying166 infoPtrX rfl (by decide) none 0 0 _ (by rfl) (Owns.nil _ _ _ _) none 0 0 _ (by rfl) (Owns.readsG (Owns.nil _ w.heap.size 86 _) (by simp)) (by decide) (by decide) ?_ ?_; (next => first | exact hS0.2.2.2.size | (have h8 : NS V w b none none _ := by assumption; exact h8.2.2.2.size)); (intro a4 c4 w4 ho4 hg4 hl4); (have hS4 : NS V w b none none w4 := NS.app (by first | assumption | exact hS0) HBV.out HVW.out (Owns.nil _ _ _ _) hg4)))
  all_goals
    go_wp2_with fail
    go_ret
    exact ⟨⟨a4, c4, [], rfl, fun W hW => (ho4.below hW (Nat.le_refl _)).mono HB.out, fun t ht => by (cases ht), rfl⟩, hS4.2.2.2⟩
theorem names_x : ∀ x : Ex.X, NamesC x
  | .num a n => names_num a n
  | .name a s => names_name a s
  | .bin a op l r => names_bin a op l r (names_x l) (names_x r)
end Go.Proofs.YtlpkebngehmimaaGreatDoor
end
