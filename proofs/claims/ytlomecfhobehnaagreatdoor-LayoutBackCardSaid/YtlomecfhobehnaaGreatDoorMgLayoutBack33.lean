/- Contract of types.checker.asks. -/
import Derived.RegionTactic
import Derived.Laws.OwnMore
import Derived.Deep.RegionLaw
import Derived.Test.YtlomecfhobehnaaGreatDoorMgLayoutBack1
import Derived.Test.YtlomecfhobehnaaGreatDoorMgLayoutBack26
import Derived.Test.YtlomecfhobehnaaGreatDoorMgLayoutBack32
section
/- append(s, t...) where s is of the call's own and t is read; a shorter slice of the call's own. No program in sight. -/
namespace Go.Proofs.YtlomecfhobehnaaGreatDoor
open Go.RowKit
set_option linter.unusedVariables false
set_option linter.unusedSimpArgs false
theorem Owns.cutTo {w : World} {B : Nat} {e : TypeId} {size : Nat} {a : Option Addr} {n cap : Nat} {xs : List Value} (h : Owns w B e size a n cap xs) (m : Nat) (hm : m ≤ n) : Owns w B e size a m cap (xs.take (m * size)) := by
  have hl := h.len
  cases a with
  | none =>
    obtain ⟨h1, h2, h3⟩ := h.of_none
    subst h1 h2 h3
    obtain rfl : m = 0 := by omega
    simpa using Owns.nil w B e size
  | some x =>
    rcases h.2 with ⟨h1, _⟩ | ⟨g, cp, cur, h1, h2, h3, h4, h5, h6, h7⟩
    · cases h1
    · cases h1
      refine ⟨by rw [List.length_take, hl]; exact Nat.min_eq_left (Nat.mul_le_mul_right _ hm), .inr ⟨g, cap, cur, rfl, h2, h3, by omega, h5, h6, ?_⟩⟩
      rw [← h7, List.take_take, Nat.min_eq_left (Nat.mul_le_mul_right _ hm)]
/-- a slice that is read, cell by cell -/
def ReadsC (w : World) (b : Option Addr) (m d : Nat) (size : Nat) (news : List Value) : Prop :=
  news.length = m * size ∧ (∀ u ∈ news, u.oneCell' = true) ∧ (b = none → m = 0 ∧ d = 0) ∧ ∀ y, b = some y → ∀ j u, news[j]? = some u → w.cell? (y.add j) = some u
theorem wpList_appendR {P : Program} (w : World) {ops : Array Oper} {rest : List Oper} {o : Oper} {act : Act} {Q : Exit → Act → World → Prop} (hgd : o.guard = none) (s x : Operand) (t : TypeId)
    (ho : o.op = .call { callee := .builtin .append, args := #[s, x], argTypes := #[t, t] })
    (B : Nat) (e : TypeId) (z : Value) (size bytes : Nat) (ht : P.underlying t = some (.slice e)) (hinf : (P.info? e).map (fun i => (i.zero, i.size, i.bytes)) = some (some z, size, bytes)) (hzs : z.cells.size = size) (hsz : 0 < size)
    (a : Option Addr) (n cap : Nat) (xs : List Value) (hs : act.eval s = .slice a n cap) (hown : Owns w B e size a n cap xs)
    (b : Option Addr) (m d : Nat) (news : List Value) (hx : act.eval x = .slice b m d) (hr : ReadsC w b m d size news)
    (h63 : n + m ≤ maxLen) (hbytes : (n + m) * bytes ≤ 140737488355328) (hbase : B ≤ w.heap.size)
    (h : ∀ a' cap' w', Owns w' B e size a' (n + m) cap' (xs ++ news) → w.grownBy w' (blk a) → Below B w w' → (∀ x, a' = some x → a = some x ∨ w.heap.size ≤ x.block) → wpList P ops Q rest (act.put o.dst (.slice a' (n + m) cap')) w') :
    wpList P ops Q (o :: rest) act w := by
  obtain ⟨i, hi, hz, hsize, hby⟩ := info_parts hinf
  obtain ⟨r1, r2, r3, r4⟩ := hr
  cases b with
  | none =>
    obtain ⟨q1, q2⟩ := r3 rfl
    subst q1 q2
    have hn : news = [] := List.eq_nil_of_length_eq_zero (by simpa using r1)
    subst hn
    refine wpList_append_own_none (w := w) hgd s x t ho B e i size ht hi _ n xs hs hown hx ?_
    have := h a cap w (by rw [List.append_nil]; exact hown) (World.grownBy.refl w _) (Below.refl _ _) (fun x hx => .inl hx)
    exact this
  | some y =>
    refine wpList_append_own_at w hgd s x t ho B e i z size bytes ht hi hz hsize hby hzs hsz (.slice a n cap) n xs hs hown y m d news hx r1 (r4 y rfl) r2 h63 hbytes hbase ?_
    intro v' w' hown' hgrow hnil hloc
    have hex : ∃ a' cap', v' = .slice a' (n + m) cap' := by
      rcases hown'.2 with ⟨h1, h2⟩ | ⟨g, cap', cur, h2, _⟩
      · exact ⟨none, 0, by rw [h1, h2]⟩
      · exact ⟨_, cap', h2⟩
    obtain ⟨a', cap', hv⟩ := hex
    rw [hv] at hown' hloc ⊢
    rw [ownBlock_eq] at hgrow
    refine h a' cap' w' hown' hgrow ?_ ?_
    · refine (Below.refl B w).grown hgrow hbase ?_
      intro k hk
      cases ha : a with
      | none => rw [ha] at hk; simp [blk] at hk
      | some z =>
        rw [ha] at hk
        subst ha
        have := (Owns.row hown).2.1
        simp [blk] at hk
        omega
    · intro z hz
      subst hz
      rcases hloc with hloc | hloc
      · left
        rw [ownBlock_eq, ownBlock_eq] at hloc
        cases ha : a with
        | none => rw [ha] at hloc; simp [blk] at hloc
        | some y =>
          rw [ha] at hloc
          subst ha
          have hr := Owns.row hown
          have hr' := Owns.row hown'
          simp [blk] at hloc
          rw [hr.1, hr'.1, hloc]
      · right
        rw [ownBlock_eq] at hloc
        simp [blk] at hloc
        omega
end Go.Proofs.YtlomecfhobehnaaGreatDoor
end
section
/- append(s, t...) inside a region that draws its order; t of any length. No program in sight. -/
namespace Go.Proofs.YtlomecfhobehnaaGreatDoor
open Go.RowKit
set_option linter.unusedVariables false
set_option linter.unusedSimpArgs false
/-- append(s, t...) inside a region that draws its order; t of any length -/
theorem step_appendG {P : Program} (w : World) {ops : Array Oper} {o : Oper} {act : Act} {K : Act → World → Prop} {Q : Exit → Act → World → Prop} {E : Prop} (hgd : o.guard = none) (s x : Operand) (t : TypeId)
    (ho : o.op = .call { callee := .builtin .append, args := #[s, x], argTypes := #[t, t] })
    (B : Nat) (e : TypeId) (z : Value) (size bytes : Nat) (ht : P.underlying t = some (.slice e)) (hinf : (P.info? e).map (fun i => (i.zero, i.size, i.bytes)) = some (some z, size, bytes)) (hzs : z.cells.size = size) (hsz : 0 < size)
    (a : Option Addr) (n cap : Nat) (xs : List Value) (hs : act.eval s = .slice a n cap) (hown : Owns w B e size a n cap xs)
    (b : Option Addr) (m d : Nat) (news : List Value) (hx : act.eval x = .slice b m d) (hr : ReadsC w b m d size news)
    (h63 : n + m ≤ maxLen) (hbytes : (n + m) * bytes ≤ 140737488355328) (hbase : B ≤ w.heap.size)
    (h : ∀ a' cap' w', Owns w' B e size a' (n + m) cap' (xs ++ news) → w.grownBy w' (blk a) → (∀ x, a' = some x → a = some x ∨ w.heap.size ≤ x.block) → K (act.put o.dst (.slice a' (n + m) cap')) w') :
    if Region.wanted o (yielded ops act.tmps) = true then Oper.wp P o act w K Q else E := by
  have hw : Region.wanted o (yielded ops act.tmps) = true := by simp [Region.wanted, hgd]
  rw [if_pos hw]
  obtain ⟨i, hi, hz, hsize, hby⟩ := info_parts hinf
  obtain ⟨r1, r2, r3, r4⟩ := hr
  cases b with
  | none =>
    obtain ⟨q1, q2⟩ := r3 rfl
    subst q1 q2
    have hn : news = [] := List.eq_nil_of_length_eq_zero (by simpa using r1)
    subst hn
    have hrun := run_append_owned_none (P := P) (w := w) B t o.type e i size ht hi (.slice a n cap) n xs hown
    unfold Oper.wp execOp
    simp only [ho, resolve, invoke, builtin, Sem.run_bind, Sem.run_pure, Result.andThen_ok, List.map_toArray, List.map_cons, List.map_nil, hs, hx, hrun]
    exact h a cap w (by rw [List.append_nil]; exact hown) (World.grownBy.refl w _) (fun x hx => .inl hx)
  | some y =>
    obtain ⟨v', w', hrun, hown', hgrow, hnil, hloc⟩ := run_append_own_at (P := P) w B t o.type e i z size bytes ht hi hz hsize hby hzs hsz (.slice a n cap) n xs hown y m d news r1 (r4 y rfl) r2 h63 hbytes hbase
    have hex : ∃ a' cap', v' = .slice a' (n + m) cap' := by
      rcases hown'.2 with ⟨h1, h2⟩ | ⟨g, cap', cur, h2, _⟩
      · exact ⟨none, 0, by rw [h1, h2]⟩
      · exact ⟨_, cap', h2⟩
    obtain ⟨a', cap', hv⟩ := hex
    rw [hv] at hown' hloc hrun
    rw [ownBlock_eq] at hgrow
    unfold Oper.wp execOp
    simp only [ho, resolve, invoke, builtin, Sem.run_bind, Sem.run_pure, Result.andThen_ok, List.map_toArray, List.map_cons, List.map_nil, hs, hx, hrun]
    refine h a' cap' w' hown' hgrow ?_
    intro z hz
    subst hz
    rcases hloc with hloc | hloc
    · left
      rw [ownBlock_eq, ownBlock_eq] at hloc
      cases ha : a with
      | none => rw [ha] at hloc; simp [blk] at hloc
      | some y =>
        rw [ha] at hloc
        subst ha
        have hr := Owns.row hown
        have hr' := Owns.row hown'
        simp [blk] at hloc
        rw [hr.1, hr'.1, hloc]
    · right
      rw [ownBlock_eq] at hloc
      simp [blk] at hloc
      omega
theorem add_rowG (b j : Nat) : (⟨b, 0, none⟩ : Addr).add j = ⟨b, j, none⟩ := by unfold Addr.add; split <;> simp_all
theorem Owns.readsG {w : World} {B : Nat} {e : TypeId} {size : Nat} {a : Option Addr} {n cap : Nat} {L : List Value} (h : Owns w B e size a n cap L) (h1 : ∀ u ∈ L, u.oneCell' = true) : ReadsC w a n cap size L := by
  refine ⟨h.len, h1, ?_, ?_⟩
  · intro e; subst e
    exact ⟨h.of_none.1, h.of_none.2.1⟩
  · intro y hy j u hj
    subst hy
    obtain ⟨h1, _, _, _, h5⟩ := h.row
    have hjl : j < L.length := by
      rcases Nat.lt_or_ge j L.length with h | h
      · exact h
      · rw [List.getElem?_eq_none h] at hj; cases hj
    rw [h1]
    rw [add_rowG, h5.cell0 j hjl, ← List.getElem?_eq_getElem hjl, hj]
end Go.Proofs.YtlomecfhobehnaaGreatDoor
end
section
/- Contract of expr.Names. -/
namespace Go.Proofs.YtlomecfhobehnaaGreatDoor
open Go.RowKit
set_option linter.unusedVariables false
set_option linter.unusedSimpArgs false
open Rd
/-- names by their nodes: block, place, name -/
abbrev Nm := Nat × Nat × Tm.Wd
def nmVals (N : List Nm) : List Value := N.map fun t => .pointer (some ⟨t.1, 0, none⟩)
theorem nmVals_app (N M : List Nm) : nmVals N ++ nmVals M = nmVals (N ++ M) := by simp [nmVals]
theorem nmVals_one (N : List Nm) : ∀ u ∈ nmVals N, u.oneCell' = true := by
  intro u hu
  simp only [nmVals, List.mem_map] at hu
  obtain ⟨z, _, rfl⟩ := hu
  rfl
theorem infoPtrX : (Tryz.prog.info? 68).map (fun i => (i.zero, i.size, i.bytes)) = some (some (.pointer none), 1, 8) := by kernel_rfl
def NamesOut (V : World) (rb B : Nat) (ns : List Tm.Wd) (e : Ending) (w' : World) : Prop := ∃ (a : Option Addr) (cap : Nat) (N : List Nm), e = .returned (.slice a N.length cap) ∧ (∀ W, Below w'.heap.size w' W → Owns W B 68 1 a N.length cap (nmVals N)) ∧ (∀ t ∈ N, IsX V rb t.1 (.name t.2.1 t.2.2)) ∧ N.map (fun t => t.2.2) = ns
def NamesC (x : Ex.X) : Prop := ∀ (V w : World) (rb b B : Nat), IsX V rb b x → Below V.heap.size V w → (Tm.namesX x).length ≤ 100000 → B ≤ w.heap.size →
  Calls Tryz.prog 115 #[.pointer (some ⟨b, 0, none⟩)] w fun e w' => NamesOut V rb B (Tm.namesX x) e w' ∧ Below w.heap.size w w'
set_option maxRecDepth 100000 in
theorem names_nil (w : World) : Calls Tryz.prog 115 #[.pointer none] w fun e w' => e = .returned (.slice none 0 0) ∧ w' = w := by
  go_enter Tryz.func115, Tryz.ntmps115
  go_wp2_with fail
  go_ret
  exact ⟨rfl, rfl⟩
set_option maxRecDepth 100000 in
theorem names_name (a : Nat) (s : Tm.Wd) : NamesC (.name a s) := by
  intro V w rb b B hx hb hl hB
  have c0 := (hx.2.below hb hx.2.lt).cell0 0 (by simp)
  simp only [List.getElem_cons_zero] at c0
  have HX := Lib.hid hx; have HB := Lib.hid hB
  clear hx hb hl hB
  go_enter Tryz.func115, Tryz.ntmps115
  go_wp2_with fail
  go_ret
  refine ⟨⟨some ⟨w.heap.size, 0, none⟩, 1, [(b, a, s)], rfl, fun W hW => ?_, fun t ht => ?_, rfl⟩, (Below.refl _ _).alloc (Nat.le_refl _) _⟩
  · have hrow := (Owns.of_row (n := 1) (cap := 1) (size := 1) (xs := nmVals [(b, a, s)]) (e := 68) (B := B) rfl (w.alloc (.cells (nmVals [(b, a, s)]).toArray 68)) w.heap.size (nmVals [(b, a, s)]).toArray HB.out (heap_alloc_new w _) rfl (Nat.le_refl _) (by decide) rfl)
    exact hrow.below hW (Nat.le_refl _)
  · rw [List.mem_singleton] at ht; subst ht; exact HX.out
/-- in a node with two parts, since w -/
abbrev NS (V w : World) (b : Nat) (pl pr : Option Addr) (w1 : World) : Prop := w1.cell? ⟨b, 5, none⟩ = some (.pointer pl) ∧ w1.cell? ⟨b, 6, none⟩ = some (.pointer pr) ∧ Below V.heap.size V w1 ∧ Below w.heap.size w w1
theorem NS.up {V w w1 w2 : World} {b : Nat} {pl pr : Option Addr} (h : NS V w b pl pr w1) (hbv : b < V.heap.size) (h2 : Below w1.heap.size w1 w2) : NS V w b pl pr w2 := by
  have h3 := h.2.2.1.trans (h2.mono h.2.2.1.size)
  exact ⟨(h3.cell (p := ⟨b, 5, none⟩) hbv).trans ((h.2.2.1.cell (p := ⟨b, 5, none⟩) hbv).symm.trans h.1), (h3.cell (p := ⟨b, 6, none⟩) hbv).trans ((h.2.2.1.cell (p := ⟨b, 6, none⟩) hbv).symm.trans h.2.1), h3, h.2.2.2.trans (h2.mono h.2.2.2.size)⟩
theorem NS.drew {V w w1 : World} {b : Nat} {pl pr : Option Addr} (h : NS V w b pl pr w1) : NS V w b pl pr w1.drew := ⟨h.1, h.2.1, h.2.2.1.drew, h.2.2.2.drew⟩
theorem NS.app {V w w1 w2 : World} {b : Nat} {pl pr a : Option Addr} {n cap : Nat} {xs : List Value} (h : NS V w b pl pr w1) (hbv : b < V.heap.size) (hvw : V.heap.size ≤ w.heap.size) (ho : Owns w1 w.heap.size 68 1 a n cap xs) (hg : w1.grownBy w2 (blk a)) : NS V w b pl pr w2 := by
  have h4 := below_blk h.2.2.2 ho (Nat.le_refl _) h.2.2.2.size hg
  have h3 := below_blk h.2.2.1 ho hvw h.2.2.1.size hg
  exact ⟨(h3.cell (p := ⟨b, 5, none⟩) hbv).trans ((h.2.2.1.cell (p := ⟨b, 5, none⟩) hbv).symm.trans h.1), (h3.cell (p := ⟨b, 6, none⟩) hbv).trans ((h.2.2.1.cell (p := ⟨b, 6, none⟩) hbv).symm.trans h.2.1), h3, h4⟩
theorem nm_small {NL NR : List Nm} {nl nr : List Tm.Wd} (h1 : NL.map (fun t => t.2.2) = nl) (h2 : NR.map (fun t => t.2.2) = nr) (h : nl.length + nr.length ≤ 100000) : NL.length + NR.length ≤ maxLen ∧ (NL.length + NR.length) * 8 ≤ 140737488355328 := by
  have e1 := congrArg List.length h1
  have e2 := congrArg List.length h2
  rw [List.length_map] at e1 e2
  refine ⟨?_, by omega⟩
  show NL.length + NR.length ≤ 9223372036854775807
  omega
set_option maxRecDepth 100000 in
set_option maxHeartbeats 4000000 in
theorem names_bin (a : Nat) (op : Tm.Wd) (l r : Ex.X) (hL : NamesC l) (hR : NamesC r) : NamesC (.bin a op l r) := by
  intro V w rb b B hx hb hl hB
  obtain ⟨bl, br, h1, h2, h3, h4⟩ := hx
  have hnx : Tm.namesX (.bin a op l r) = Tm.namesX l ++ Tm.namesX r := rfl
  rw [hnx] at hl ⊢
  rw [List.length_append] at hl
  have hr2 := h2.below hb h2.lt
  have c0 := hr2.cell0 0 (by simp); have c5 := hr2.cell0 5 (by simp); have c6 := hr2.cell0 6 (by simp)
  simp only [List.getElem_cons_zero, List.getElem_cons_succ] at c0 c5 c6
  have hS0 : NS V w b (some ⟨bl, 0, none⟩) (some ⟨br, 0, none⟩) w := ⟨c5, c6, hb, Below.refl _ _⟩
  have hbv := h2.lt
  have HL := Lib.hid (fun W (hW : NS V w b (some ⟨bl, 0, none⟩) (some ⟨br, 0, none⟩) W) => hL V W rb bl w.heap.size h3 hW.2.2.1 (by omega) hW.2.2.2.size)
  have HR := Lib.hid (fun W (hW : NS V w b (some ⟨bl, 0, none⟩) (some ⟨br, 0, none⟩) W) => hR V W rb br w.heap.size h4 hW.2.2.1 (by omega) hW.2.2.2.size)
  unfold NamesOut at HL HR
  have HBV := Lib.hid hbv; have HVW := Lib.hid hb.size; have HB := Lib.hid hB; have HLEN := Lib.hid hl
  generalize Tm.namesX l = nl at *
  generalize Tm.namesX r = nr at *
  clear h1 h2 h3 h4 hr2 hL hR hnx hbv hb hl hB
  go_enter Tryz.func115, Tryz.ntmps115
  go_wp2_with fail
  go_region_held3 (fun w1 => w1.cell? ⟨b, 5, none⟩ = some (.pointer (some ⟨bl, 0, none⟩)) ∧ w1.cell? ⟨b, 6, none⟩ = some (.pointer (some ⟨br, 0, none⟩)) ∧ Below V.heap.size V w1 ∧ Below w.heap.size w w1)
    (first
      | exact hS0
      | exact NS.drew (by assumption)
      | assumption)
    (first
      | (go_at_call 115; (with_reducible refine (HL.out _ ?_).mono ?_); (next => (first | assumption | exact hS0)); (rintro e w9 ⟨⟨aL, cL, NL, rfl, hoL, hxL, hnL⟩, hbL⟩); (have hSL : NS V w b (some ⟨bl, 0, none⟩) (some ⟨br, 0, none⟩) w9 := NS.up (by first | assumption | exact hS0) HBV.out hbL))
      | (go_at_call 115; (with_reducible refine (HR.out _ ?_).mono ?_); (next => (first | assumption | exact hS0)); (rintro e w8 ⟨⟨aR, cR, NR, rfl, hoR, hxR, hnR⟩, hbR⟩); (have hSR : NS V w b (some ⟨bl, 0, none⟩) (some ⟨br, 0, none⟩) w8 := NS.up (by first | assumption | exact hS0) HBV.out hbR))
      | ((with_reducible refine at_app ?_); refine step_appendG _ (by rfl) _ _ 198 (by rfl) w.heap.size 68 (.pointer none) 1 8 Tryz.underlying198 infoPtrX rfl (by decide) aL NL.length cL _ (by rfl) (hoL _ ?_) aR NR.length cR _ (by rfl) (Owns.readsG (hoR _ ?_) (nmVals_one _)) (nm_small hnL hnR HLEN.out).1 (nm_small hnL hnR HLEN.out).2 ?_ ?_; (next => first | exact Below.refl _ _ | assumption); (next => first | exact Below.refl _ _ | assumption); (next => first | exact hSL.2.2.2.size | exact hSR.2.2.2.size); (intro a4 c4 w4 ho4 hg4 hl4); (have hS4 : NS V w b (some ⟨bl, 0, none⟩) (some ⟨br, 0, none⟩) w4 := by first | exact NS.app hSR HBV.out HVW.out (hoL _ (by first | exact Below.refl _ _ | assumption)) hg4 | exact NS.app hSL HBV.out HVW.out (hoL _ (by first | exact Below.refl _ _ | assumption)) hg4)))
  all_goals
    go_wp2_with fail
    go_ret
    refine ⟨⟨a4, c4, NL ++ NR, ?_, fun W hW => ?_, fun t ht => ?_, ?_⟩, hS4.2.2.2⟩
    · rw [List.length_append]; rfl
    · rw [List.length_append, ← nmVals_app]
      exact (ho4.below hW (Nat.le_refl _)).mono HB.out
    · rcases List.mem_append.1 ht with h | h
      · exact hxL t h
      · exact hxR t h
    · rw [List.map_append, hnL, hnR]
set_option maxRecDepth 100000 in
set_option maxHeartbeats 4000000 in
theorem names_num (a n : Nat) : NamesC (.num a n) := by
  intro V w rb b B hx hb hl hB
  have hr2 := hx.2.below hb hx.2.lt
  have c0 := hr2.cell0 0 (by simp); have c5 := hr2.cell0 5 (by simp); have c6 := hr2.cell0 6 (by simp)
  simp only [List.getElem_cons_zero, List.getElem_cons_succ] at c0 c5 c6
  have HN := Lib.hid names_nil
  have hS0 : NS V w b none none w := ⟨c5, c6, hb, Below.refl _ _⟩
  have HBV := Lib.hid hx.2.lt; have HVW := Lib.hid hb.size; have HB := Lib.hid hB
  clear hx hb hl hB hr2
  go_enter Tryz.func115, Tryz.ntmps115
  go_wp2_with fail
  go_region_held3 (fun w1 => w1.cell? ⟨b, 5, none⟩ = some (.pointer none) ∧ w1.cell? ⟨b, 6, none⟩ = some (.pointer none) ∧ Below V.heap.size V w1 ∧ Below w.heap.size w w1)
    (first
      | exact hS0
      | exact NS.drew (by assumption)
      | assumption)
    (first
      | (go_at_call 115; (with_reducible refine (HN.out _).mono ?_); (rintro e w9 ⟨rfl, rfl⟩))
      | ((with_reducible refine at_app ?_); refine step_appendG _ (by rfl) _ _ 198 (by rfl) w.heap.size 68 (.pointer none) 1 8 Tryz.underlying198 infoPtrX rfl (by decide) none 0 0 _ (by rfl) (Owns.nil _ _ _ _) none 0 0 _ (by rfl) (Owns.readsG (Owns.nil _ w.heap.size 68 _) (by simp)) (by decide) (by decide) ?_ ?_; (next => first | exact hS0.2.2.2.size | (have h8 : NS V w b none none _ := by assumption; exact h8.2.2.2.size)); (intro a4 c4 w4 ho4 hg4 hl4); (have hS4 : NS V w b none none w4 := NS.app (by first | assumption | exact hS0) HBV.out HVW.out (Owns.nil _ _ _ _) hg4)))
  all_goals
    go_wp2_with fail
    go_ret
    exact ⟨⟨a4, c4, [], rfl, fun W hW => (ho4.below hW (Nat.le_refl _)).mono HB.out, fun t ht => by (cases ht), rfl⟩, hS4.2.2.2⟩
theorem names_x : ∀ x : Ex.X, NamesC x
  | .num a n => names_num a n
  | .name a s => names_name a s
  | .bin a op l r => names_bin a op l r (names_x l) (names_x r)
end Go.Proofs.YtlomecfhobehnaaGreatDoor
end
section
/- Contract of types.checker.asks. -/
namespace Go.Proofs.YtlomecfhobehnaaGreatDoor
open Go.RowKit
set_option linter.unusedVariables false
set_option linter.unusedSimpArgs false
open Rd
/-- the checker's box and what is seen so far -/
structure CkS (w : World) (cb tb mb : Nat) (sa : Option Addr) (sc : Nat) (seen : List Tm.Wd) : Prop where
  box : RowAt w cb 0 107 [.map (some tb), .map (some mb), .slice sa seen.length sc]
  own : Owns w 0 9 1 sa seen.length sc (wdVals seen)
theorem CkS.up {w w' : World} {cb tb mb : Nat} {sa : Option Addr} {sc : Nat} {seen : List Tm.Wd} (h : CkS w cb tb mb sa sc seen) (hb : Below w.heap.size w w') : CkS w' cb tb mb sa sc seen := ⟨h.box.below hb h.box.lt, h.own.below hb (Nat.le_refl _)⟩
theorem asks_next {seen : List Tm.Wd} {N : List Nm} {k : Nat} {t : Nm} (h : Tm.asks seen ((N.take k).map fun t => t.2.2) = true) (hk : N[k]? = some t) (hm : t.2.2 ∈ seen) : Tm.asks seen ((N.take (k + 1)).map fun t => t.2.2) = true := by
  unfold Tm.asks at *
  rw [List.take_add_one, hk, List.map_append, List.all_append, h]
  simp [hm]
theorem asks_bad {seen : List Tm.Wd} {N : List Nm} {k : Nat} {t : Nm} (hk : N[k]? = some t) (hm : t.2.2 ∉ seen) : Tm.asks seen (N.map fun t => t.2.2) = false := by
  unfold Tm.asks
  rw [List.all_eq_false]
  refine ⟨t.2.2, List.mem_map.2 ⟨t, List.mem_of_getElem? hk, rfl⟩, ?_⟩
  simp [hm]
set_option maxRecDepth 100000 in
set_option maxHeartbeats 4000000 in
theorem asks_any (V w : World) (rb cb tb mb sc : Nat) (sa : Option Addr) (seen : List Tm.Wd) (p8 : Option Addr) (x : Option Ex.X) (hx : Tm.CntV V rb x (.pointer p8)) (hb : Below V.heap.size V w) (hs : CkS w cb tb mb sa sc seen) (hl : (Tm.namesO x).length ≤ 100000) (hsl : seen.length ≤ 100000) :
    Calls Tryz.prog 90 #[.pointer (some ⟨cb, 0, none⟩), .pointer p8] w fun e w' => Below w.heap.size w w' ∧ TOut w.heap.size (if Tm.asks seen (Tm.namesO x) then none else some 5) e w' := by
  have hN : Calls Tryz.prog 115 #[.pointer p8] w fun e w' => NamesOut V rb w.heap.size (Tm.namesO x) e w' ∧ Below w.heap.size w w' := by
    cases x with
    | none =>
      have : p8 = none := by have h9 : (Value.pointer p8) = .pointer none := hx; injection h9
      subst this
      exact (names_nil w).mono fun e w' ⟨h1, h2⟩ => by subst h1 h2; exact ⟨⟨none, 0, [], rfl, fun W _ => Owns.nil _ _ _ _, fun t ht => by (cases ht), rfl⟩, Below.refl _ _⟩
    | some y =>
      obtain ⟨b, h1, h2⟩ := hx
      injection h1 with h1
      subst h1
      exact names_x y V w rb b w.heap.size h2 hb hl (Nat.le_refl _)
  unfold NamesOut at hN
  generalize Tm.namesO x = ns at *
  obtain ⟨oo, hoo⟩ : ∃ oo : Option Nat, oo = (if Tm.asks seen ns then none else some 5) := ⟨_, rfl⟩
  rw [← hoo]
  have HOO := Lib.hid hoo
  clear hoo
  have HN := Lib.hid hN; have HB := Lib.hid hb; have HS := Lib.hid hs
  clear hN hx hb hs
  go_enter Tryz.func90, Tryz.ntmps90
  go_wp2_with fail
  refine HN.out.mono ?_
  rintro e w1 ⟨⟨ga, cap, N, rfl, ho, hx, hnm⟩, hb1⟩
  obtain ⟨m, hm⟩ : ∃ m, m = N.length := ⟨_, rfl⟩
  have hm2 : m ≤ 100000 := by rw [hm, ← List.length_map (fun t : Nm => t.2.2), hnm]; exact hl
  have hcap : m ≤ cap := by rw [hm]; exact own_cap (ho _ (Below.refl _ _))
  rw [← hm]
  have HO := Lib.hid ho; have HX := Lib.hid hx; have HNM := Lib.hid hnm; have HB1 := Lib.hid hb1; have HM := Lib.hid hm
  clear ho hx hnm hb1 hm HN hl
  go_wp2_with fail
  go_loopw [9] (fun v9 wr => ∃ k : Nat, v9 = .int .i64 k ∧ k ≤ m ∧ Hid (Tm.asks seen ((N.take k).map fun t => t.2.2) = true) ∧ Hid (Below w1.heap.size w1 wr)) (fun v9 _ => m - (intOf v9).toNat)
  case atStart => exact ⟨0, rfl, Nat.zero_le _, Lib.hid (by simp [Tm.asks]), Lib.hid (Below.refl _ _)⟩
  case round =>
    obtain ⟨k, rfl, hk, HQ, HBW⟩ := hrel
    by_cases hlt : k < m
    · have hki : (k : Int) < (m : Int) := by omega
      have q1 : decide ((k : Int) < (m : Int)) = true := decide_eq_true hki
      have q2 : decide (k < m) = true := decide_eq_true hlt
      have HLT := Lib.hid hlt
      have how := HO.out wr HBW.out
      obtain ⟨y, rfl⟩ : ∃ y, ga = some y := by
        cases ga with
        | none => have := how.of_none.1; rw [← HM.out] at this; omega
        | some y => exact ⟨y, rfl⟩
      obtain ⟨gb, rfl⟩ : ∃ gb, y = ⟨gb, 0, none⟩ := ⟨y.block, how.row.1⟩
      obtain ⟨t, ht⟩ : ∃ t, N[k]? = some t := ⟨N[k]'(by rw [← HM.out]; exact hlt), List.getElem?_eq_getElem _⟩
      have hcell : wr.cell? ⟨gb, k, none⟩ = some (.pointer (some ⟨t.1, 0, none⟩)) := by
        rw [how.row.2.2.2.2.cell0 k (by simp [nmVals]; rw [← HM.out]; exact hlt)]
        rw [List.getElem?_eq_getElem (by rw [← HM.out]; exact hlt)] at ht
        injection ht with ht
        simp only [nmVals, List.getElem_map, ht]
      have hbw : Below w.heap.size w wr := HB1.out.trans (HBW.out.mono HB1.out.size)
      have hxt := HX.out t (List.mem_of_getElem? ht)
      have hrow := (hxt.2.below HB.out hxt.2.lt).below hbw (hxt.2.below HB.out hxt.2.lt).lt
      have n1 := hrow.cell0 1 (by simp); have n3 := hrow.cell0 3 (by simp)
      have hsw := HS.out.up hbw
      have b2 := hsw.box.cell0 2 (by simp)
      simp only [List.getElem_cons_zero, List.getElem_cons_succ] at n1 n3 b2
      have HT := Lib.hid ht; have HBR := Lib.hid hbw
      have HC := Lib.hid (fun q => ContainsW sa seen.length sc seen t.2.2 (wr.drewN q) rfl hsl (hsw.own.drewN q).readsW)
      obtain ⟨nm, hnm⟩ : ∃ nm, nm = t.2.2 := ⟨_, rfl⟩
      obtain ⟨at_, hat⟩ : ∃ at_, at_ = t.2.1 := ⟨_, rfl⟩
      rw [← hnm] at n3 HC
      rw [← hat] at n1
      have HNA := Lib.hid hnm
      clear how ht hxt hrow hsw hbw hlt hnm hat
      go_wp2_with fail
      go_quiet (first | (go_at_call 116; with_reducible exact Calls.quiet_of_same (turn (HC.out _))))
      obtain ⟨wq, hwq⟩ : ∃ wq, wq = wr.drewN nq := ⟨_, rfl⟩
      have n1' : wq.cell? ⟨t.1, 1, none⟩ = some (.int .i64 (at_ : Nat)) := by rw [hwq]; exact n1
      have HBQ := Lib.hid (show Below w.heap.size w wq by rw [hwq]; exact ⟨HBR.out.os, HBR.out.tape, HBR.out.output, HBR.out.size, HBR.out.block⟩)
      have HBQ1 := Lib.hid (show Below w1.heap.size w1 wq by rw [hwq]; exact ⟨HBW.out.os, HBW.out.tape, HBW.out.output, HBW.out.size, HBW.out.block⟩)
      rw [← hwq]
      clear hwq n1 n3 b2 HC
      obtain ⟨bb, hbb⟩ : ∃ bb, bb = decide (nm ∈ seen) := ⟨_, rfl⟩
      rw [← hbb]
      cases bb with
      | true =>
        have hin : nm ∈ seen := of_decide_eq_true hbb.symm
        have HQ2 := Lib.hid (asks_next HQ.out HT.out (by rw [← HNA.out]; exact hin))
        clear hin hbb
        go_wp2_with fail
        go_roundw
        case rel => exact ⟨k + 1, by go_num, by have := HLT.out; omega, HQ2, HBQ1⟩
        case measure => simp [intOf]; have := HLT.out; omega
      | false =>
        have hin : nm ∉ seen := of_decide_eq_false hbb.symm
        have HE := Lib.hid (show Tm.asks seen ns = false by rw [← HNM.out]; exact asks_bad HT.out (by rw [← HNA.out]; exact hin))
        clear hin hbb
        go_wp2_with fail
        refine (fail_any 5 at_ wq).mono ?_
        rintro e wF ⟨rfl, g1, g2⟩
        have HB9 := Lib.hid (HBQ.out.trans (g2.mono HBQ.out.size))
        have G1 := Lib.hid g1
        clear g1 g2
        go_wp2_with fail
        refine ⟨rfl, HB9.out, ?_⟩
        rw [HOO.out, HE.out]
        exact ⟨_, _, rfl, G1.out, HBQ.out.size⟩
    · obtain rfl : k = m := by omega
      have hd : decide ((k : Int) < (k : Int)) = false := by simp
      have hd2 : decide (k < k) = false := by simp
      have HE := Lib.hid (show Tm.asks seen ns = true by rw [← HNM.out]; have := HQ.out; rwa [HM.out, List.take_length] at this)
      have HBR := Lib.hid (HB1.out.trans (HBW.out.mono HB1.out.size))
      go_wp2_with fail
      go_end0
      refine ⟨HBR.out, ?_⟩
      rw [HOO.out, HE.out]
      rfl
end Go.Proofs.YtlomecfhobehnaaGreatDoor
end
