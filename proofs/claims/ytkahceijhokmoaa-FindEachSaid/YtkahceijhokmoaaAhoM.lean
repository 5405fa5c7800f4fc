/- The tree of find.grown, as it lies in memory. -/
import Derived.Test.YtkahceijhokmoaaPlainAho2
import Derived.Test.YtkahceijhokmoaaMapB
import Derived.Test.YtkahceijhokmoaaFindA
namespace Go.Proofs.Ytkahceijhokmoaa
open Go.RowKit
set_option linter.unusedVariables false
set_option linter.unusedSimpArgs false
theorem MapB.keep {P : Program} {k e : TypeId} {w w' : World} {b n : Nat} {F : Nat → Option Nat} (h : MapB P k e w b n F) (hh : w'.heap[b]? = w.heap[b]?) : MapB P k e w' b n F := by
  obtain ⟨D, ⟨es, cl, h1, h2⟩, h3⟩ := h
  exact ⟨D, ⟨es, cl, hh.trans h1, h2⟩, h3⟩
theorem MapB.obj {P : Program} {k e : TypeId} {w : World} {b n : Nat} {F : Nat → Option Nat} (h : MapB P k e w b n F) : ∃ es cl, w.heap[b]? = some (.map es cl) := by
  obtain ⟨D, ⟨es, cl, h1, _⟩, _⟩ := h
  exact ⟨es, cl, h1⟩
/-- a node: its map's block, its fail, its ends -/
structure Nd where
  m : Nat
  f : Nat
  a : Option Addr
  e : List Nat
  c : Nat
def dn : Nd := ⟨0, 0, none, [], 0⟩
def nints (e : List Nat) : List Int := e.map fun k : Nat => (k : Int)
theorem nints_length (e : List Nat) : (nints e).length = e.length := by simp [nints]
def ndCells (d : Nd) : List Value := [.map (some d.m), .int .i64 (d.f : Nat), .slice d.a d.e.length d.c]
def treeCells : List Nd → List Value
  | [] => []
  | d :: T => .map (some d.m) :: .int .i64 (d.f : Nat) :: .slice d.a d.e.length d.c :: treeCells T
theorem treeCells_length : ∀ T : List Nd, (treeCells T).length = T.length * 3
  | [] => rfl
  | d :: T => by simp [treeCells, treeCells_length T]; omega
theorem treeCells_app : ∀ (T U : List Nd), treeCells (T ++ U) = treeCells T ++ treeCells U
  | [], U => rfl
  | d :: T, U => by simp [treeCells, treeCells_app T U]
theorem tree_m : ∀ (T : List Nd) (i : Nat), i < T.length → (treeCells T)[i * 3]? = some (.map (some (T.getD i dn).m))
  | [], i, h => by simp at h
  | d :: T, 0, h => rfl
  | d :: T, i + 1, h => by
    have ih := tree_m T i (by simpa using h)
    rw [show (i + 1) * 3 = i * 3 + 3 by omega]
    exact ih
theorem tree_f : ∀ (T : List Nd) (i : Nat), i < T.length → (treeCells T)[i * 3 + 1]? = some (.int .i64 ((T.getD i dn).f : Nat))
  | [], i, h => by simp at h
  | d :: T, 0, h => rfl
  | d :: T, i + 1, h => by
    have ih := tree_f T i (by simpa using h)
    rw [show (i + 1) * 3 + 1 = (i * 3 + 1) + 3 by omega]
    exact ih
theorem tree_e : ∀ (T : List Nd) (i : Nat), i < T.length → (treeCells T)[i * 3 + 2]? = some (.slice (T.getD i dn).a (T.getD i dn).e.length (T.getD i dn).c)
  | [], i, h => by simp at h
  | d :: T, 0, h => rfl
  | d :: T, i + 1, h => by
    have ih := tree_e T i (by simpa using h)
    rw [show (i + 1) * 3 + 2 = (i * 3 + 2) + 3 by omega]
    exact ih
theorem tree_setf (v : Nat) : ∀ (T : List Nd) (i : Nat), i < T.length → (treeCells T).set (i * 3 + 1) (.int .i64 (v : Nat)) = treeCells (T.set i { T.getD i dn with f := v })
  | [], i, h => by simp at h
  | d :: T, 0, h => rfl
  | d :: T, i + 1, h => by
    have ih := tree_setf v T i (by simpa using h)
    rw [show (i + 1) * 3 + 1 = (i * 3 + 1) + 3 by omega]
    show _ :: _ :: _ :: _ = _ :: _ :: _ :: _
    rw [ih]; rfl
theorem tree_sete (a : Option Addr) (e : List Nat) (c : Nat) : ∀ (T : List Nd) (i : Nat), i < T.length → (treeCells T).set (i * 3 + 2) (.slice a e.length c) = treeCells (T.set i { T.getD i dn with a := a, e := e, c := c })
  | [], i, h => by simp at h
  | d :: T, 0, h => rfl
  | d :: T, i + 1, h => by
    have ih := tree_sete a e c T i (by simpa using h)
    rw [show (i + 1) * 3 + 2 = (i * 3 + 2) + 3 by omega]
    show _ :: _ :: _ :: _ = _ :: _ :: _ :: _
    rw [ih]; rfl
/-- the tree in memory -/
structure TreeM (W : World) (B ga cap n q : Nat) (F : Nat → Nat → Option Nat) (T : List Nd) : Prop where
  len : T.length = n
  own : Owns W B 53 3 (some ⟨ga, 0, none⟩) n cap (treeCells T)
  mp : ∀ i, i < n → MapB Try.prog 5 3 W (T.getD i dn).m q (F i) ∧ B ≤ (T.getD i dn).m
  mne : ∀ i j, i < n → j < n → i ≠ j → (T.getD i dn).m ≠ (T.getD j dn).m
  en : ∀ i, i < n → Owns W B 3 1 (T.getD i dn).a (T.getD i dn).e.length (T.getD i dn).c (ivals (nints (T.getD i dn).e))
  ene : ∀ i j x y, i < n → j < n → i ≠ j → (T.getD i dn).a = some x → (T.getD j dn).a = some y → x.block ≠ y.block
section
variable {W W' : World} {B ga cap n q : Nat} {F : Nat → Nat → Option Nat} {T : List Nd}
/-- a block of the tree -/
def InT (ga : Nat) (T : List Nd) (n b : Nat) : Prop := b = ga ∨ ∃ i, i < n ∧ (b = (T.getD i dn).m ∨ some b = blk (T.getD i dn).a)
theorem TreeM.ga_lt (h : TreeM W B ga cap n q F T) : B ≤ ga ∧ ga < W.heap.size := h.own.lt
theorem TreeM.in_lt (h : TreeM W B ga cap n q F T) {b : Nat} (hb : InT ga T n b) : B ≤ b ∧ b < W.heap.size := by
  rcases hb with rfl | ⟨i, hi, rfl | hb⟩
  · exact h.own.lt
  · exact ⟨(h.mp i hi).2, (h.mp i hi).1.lt⟩
  · have he := h.en i hi
    cases ha : (T.getD i dn).a with
    | none => rw [ha] at hb; cases hb
    | some x =>
      rw [ha] at hb he
      cases hb
      exact he.lt
theorem TreeM.keep (h : TreeM W B ga cap n q F T) (hh : ∀ b, InT ga T n b → W'.heap[b]? = W.heap[b]?) : TreeM W' B ga cap n q F T := by
  refine ⟨h.len, h.own.keep fun x hx => ?_, fun i hi => ⟨(h.mp i hi).1.keep (hh _ (.inr ⟨i, hi, .inl rfl⟩)), (h.mp i hi).2⟩, h.mne, fun i hi => (h.en i hi).keep fun x hx => hh _ (.inr ⟨i, hi, .inr (by rw [hx]; rfl)⟩), h.ene⟩
  cases hx
  exact hh _ (.inl rfl)
theorem TreeM.below {B' : Nat} (h : TreeM W B ga cap n q F T) (hb : Below B' W W') (hB : W.heap.size ≤ B') : TreeM W' B ga cap n q F T := h.keep fun b hb' => hb.block b (Nat.lt_of_lt_of_le (h.in_lt hb').2 hB)
theorem TreeM.alloc (h : TreeM W B ga cap n q F T) (o : Obj) : TreeM (W.alloc o) B ga cap n q F T := h.keep fun b hb => Below.heap_alloc W o b (h.in_lt hb).2
theorem TreeM.drewN (h : TreeM W B ga cap n q F T) (k : Nat) : TreeM (W.drewN k) B ga cap n q F T := h.keep fun b _ => rfl
theorem TreeM.drew (h : TreeM W B ga cap n q F T) : TreeM W.drew B ga cap n q F T := h.keep fun b _ => rfl
theorem TreeM.cm (h : TreeM W B ga cap n q F T) (i : Nat) (hi : i < n) : W.cell? ⟨ga, i * 3, none⟩ = some (.map (some (T.getD i dn).m)) := by
  have hl : i * 3 < (treeCells T).length := by rw [treeCells_length, h.len]; omega
  rw [h.own.cell (i * 3) hl, ← List.getElem?_eq_getElem hl, tree_m T i (by rw [h.len]; exact hi)]
theorem TreeM.cf (h : TreeM W B ga cap n q F T) (i : Nat) (hi : i < n) : W.cell? ⟨ga, i * 3 + 1, none⟩ = some (.int .i64 ((T.getD i dn).f : Nat)) := by
  have hl : i * 3 + 1 < (treeCells T).length := by rw [treeCells_length, h.len]; omega
  rw [h.own.cell (i * 3 + 1) hl, ← List.getElem?_eq_getElem hl, tree_f T i (by rw [h.len]; exact hi)]
theorem TreeM.ce (h : TreeM W B ga cap n q F T) (i : Nat) (hi : i < n) : W.cell? ⟨ga, i * 3 + 2, none⟩ = some (.slice (T.getD i dn).a (T.getD i dn).e.length (T.getD i dn).c) := by
  have hl : i * 3 + 2 < (treeCells T).length := by rw [treeCells_length, h.len]; omega
  rw [h.own.cell (i * 3 + 2) hl, ← List.getElem?_eq_getElem hl, tree_e T i (by rw [h.len]; exact hi)]
theorem TreeM.fz (h : TreeM W B ga cap n q F T) (k : Nat) (hk : k < n * 3) : W.frozen? ⟨ga, k, none⟩ = false := by
  have hl : k < (treeCells T).length := by rw [treeCells_length, h.len]; exact hk
  exact h.own.row.2.2.2.2.frozen0 k hl
/-- ga is no block of a map, nor of ends -/
theorem TreeM.ga_ne (h : TreeM W B ga cap n q F T) (i : Nat) (hi : i < n) : (T.getD i dn).m ≠ ga ∧ some ga ≠ blk (T.getD i dn).a := by
  obtain ⟨_, _, _, _, cur, fz, hg, _⟩ := h.own.row
  constructor
  · intro e
    obtain ⟨es, cl, hm⟩ := (h.mp i hi).1.obj
    rw [e] at hm
    rw [hm] at hg
    cases hg
  · intro e
    have he := h.en i hi
    cases ha : (T.getD i dn).a with
    | none => rw [ha] at e; cases e
    | some x =>
      rw [ha] at e he
      obtain ⟨_, _, _, _, cur2, fz2, hg2, _⟩ := he.row
      cases e
      rw [hg2] at hg
      injection hg with hg
      injection hg with _ hg _
      exact absurd hg (by decide)
theorem TreeM.m_ne (h : TreeM W B ga cap n q F T) (i j : Nat) (hi : i < n) (hj : j < n) : some (T.getD i dn).m ≠ blk (T.getD j dn).a := by
  intro e
  have he := h.en j hj
  cases ha : (T.getD j dn).a with
  | none => rw [ha] at e; cases e
  | some x =>
    rw [ha] at e he
    obtain ⟨_, _, _, _, cur2, fz2, hg2, _⟩ := he.row
    obtain ⟨es, cl, hm⟩ := (h.mp i hi).1.obj
    rw [Option.some.inj e] at hm
    change W.heap[x.block]? = _ at hm
    rw [hm] at hg2
    cases hg2
theorem TreeM.tlen (h : TreeM W B ga cap n q F T) (i : Nat) (hi : i < n) : i < T.length := by rw [h.len]; exact hi
theorem getD_set (T : List Nd) (i j : Nat) (d : Nd) (hi : i < T.length) : (T.set i d).getD j dn = if i = j then d else T.getD j dn := by
  rw [List.getD_eq_getElem?_getD, List.getElem?_set]
  by_cases e : i = j
  · subst e; rw [if_pos rfl, if_pos hi, if_pos rfl]; rfl
  · rw [if_neg e, if_neg e, List.getD_eq_getElem?_getD]
theorem TreeM.setF (h : TreeM W B ga cap n q F T) (i : Nat) (hi : i < n) (v : Nat) : TreeM (W.setCell ⟨ga, i * 3 + 1, none⟩ (.int .i64 (v : Nat))) B ga cap n q F (T.set i { T.getD i dn with f := v }) := by
  have hti := h.tlen i hi
  have hm : ∀ j, ((T.set i { T.getD i dn with f := v }).getD j dn).m = (T.getD j dn).m := by
    intro j; rw [getD_set _ _ _ _ hti]; split
    · rename_i e; rw [e]
    · rfl
  have ha : ∀ j, ((T.set i { T.getD i dn with f := v }).getD j dn).a = (T.getD j dn).a := by
    intro j; rw [getD_set _ _ _ _ hti]; split
    · rename_i e; rw [e]
    · rfl
  have he : ∀ j, ((T.set i { T.getD i dn with f := v }).getD j dn).e = (T.getD j dn).e := by
    intro j; rw [getD_set _ _ _ _ hti]; split
    · rename_i e; rw [e]
    · rfl
  have hc : ∀ j, ((T.set i { T.getD i dn with f := v }).getD j dn).c = (T.getD j dn).c := by
    intro j; rw [getD_set _ _ _ _ hti]; split
    · rename_i e; rw [e]
    · rfl
  have hl : i * 3 + 1 < (treeCells T).length := by rw [treeCells_length]; omega
  have hset := h.own.set (i * 3 + 1) hl (.int .i64 (v : Nat))
  rw [tree_setf v T i hti] at hset
  have hk : ∀ b, b ≠ ga → (W.setCell ⟨ga, i * 3 + 1, none⟩ (.int .i64 (v : Nat))).heap[b]? = W.heap[b]? := fun b hb => Below.heap_setCell W _ _ b hb
  refine ⟨by rw [List.length_set]; exact h.len, hset, fun j hj => ?_, fun j k hj hk' hne => ?_, fun j hj => ?_, fun j k x y hj hk' hne hx hy => ?_⟩
  · rw [hm]; exact ⟨(h.mp j hj).1.keep (hk _ (h.ga_ne j hj).1), (h.mp j hj).2⟩
  · rw [hm, hm]; exact h.mne j k hj hk' hne
  · rw [ha, he, hc]
    exact (h.en j hj).keep fun x hx => hk _ (fun e => (h.ga_ne j hj).2 (by rw [hx, ← e]; rfl))
  · rw [ha] at hx hy; exact h.ene j k x y hj hk' hne hx hy
theorem TreeM.setE (h : TreeM W B ga cap n q F T) (i : Nat) (hi : i < n) {W4 : World} {a' : Option Addr} {e' : List Nat} {c' : Nat} (hown : Owns W4 B 3 1 a' e'.length c' (ivals (nints e')))
    (hgrow : W.grownBy W4 (blk (T.getD i dn).a)) (hloc : ∀ x, a' = some x → (T.getD i dn).a = some x ∨ W.heap.size ≤ x.block) :
    RowAt W4 ga 0 53 (treeCells T) ∧ TreeM (W4.setCell ⟨ga, i * 3 + 2, none⟩ (.slice a' e'.length c')) B ga cap n q F (T.set i { T.getD i dn with a := a', e := e', c := c' }) := by
  have hti := h.tlen i hi
  have hm : ∀ j, ((T.set i { T.getD i dn with a := a', e := e', c := c' }).getD j dn).m = (T.getD j dn).m := by
    intro j; rw [getD_set _ _ _ _ hti]; split
    · rename_i e; rw [e]
    · rfl
  have hd : ∀ j, j ≠ i → (T.set i { T.getD i dn with a := a', e := e', c := c' }).getD j dn = T.getD j dn := by
    intro j hj; rw [getD_set _ _ _ _ hti, if_neg (fun e => hj e.symm)]
  have hdi : (T.set i { T.getD i dn with a := a', e := e', c := c' }).getD i dn = { T.getD i dn with a := a', e := e', c := c' } := by rw [getD_set _ _ _ _ hti, if_pos rfl]
  have hg4 : W4.heap[ga]? = W.heap[ga]? := hgrow.block ga h.ga_lt.2 (h.ga_ne i hi).2
  have hown4 : Owns W4 B 53 3 (some ⟨ga, 0, none⟩) n cap (treeCells T) := h.own.keep fun x hx => by cases hx; exact hg4
  have hl : i * 3 + 2 < (treeCells T).length := by rw [treeCells_length]; omega
  have hset := hown4.set (i * 3 + 2) hl (.slice a' e'.length c')
  rw [tree_sete a' e' c' T i hti] at hset
  have hk : ∀ b, b ≠ ga → (W4.setCell ⟨ga, i * 3 + 2, none⟩ (.slice a' e'.length c')).heap[b]? = W4.heap[b]? := fun b hb => Below.heap_setCell W4 _ _ b hb
  have hmk : ∀ j, j < n → W4.heap[(T.getD j dn).m]? = W.heap[(T.getD j dn).m]? := fun j hj => hgrow.block _ (h.mp j hj).1.lt (h.m_ne j i hj hi)
  have hblk : ∀ j x, j < n → (T.getD j dn).a = some x → x.block ≠ ga := fun j x hj hx e => (h.ga_ne j hj).2 (by rw [hx, ← e]; rfl)
  refine ⟨hown4.row.2.2.2.2, by rw [List.length_set]; exact h.len, hset, fun j hj => ?_, fun j k hj hk' hne => ?_, fun j hj => ?_, fun j k x y hj hk' hne hx hy => ?_⟩
  · rw [hm]; exact ⟨((h.mp j hj).1.keep (hmk j hj)).keep (hk _ (h.ga_ne j hj).1), (h.mp j hj).2⟩
  · rw [hm, hm]; exact h.mne j k hj hk' hne
  · by_cases e : j = i
    · subst e
      rw [hdi]
      refine hown.keep fun x hx => hk _ ?_
      rcases hloc x hx with h1 | h1
      · exact hblk j x hj h1
      · have := h.ga_lt.2; omega
    · rw [hd j e]
      refine ((h.en j hj).keep fun x hx => hgrow.block _ (by have := h.en j hj; rw [hx] at this; exact this.lt.2) ?_).keep fun x hx => hk _ (hblk j x hj hx)
      intro e2
      cases hai : (T.getD i dn).a with
      | none => rw [hai] at e2; cases e2
      | some y => rw [hai] at e2; exact h.ene j i x y hj hi e hx hai (Option.some.inj e2)
  · by_cases ej : j = i
    · subst ej
      have ek : k ≠ j := fun e => hne e.symm
      rw [hdi] at hx; rw [hd k ek] at hy
      rcases hloc x hx with h1 | h1
      · exact h.ene j k x y hj hk' hne h1 hy
      · have := h.en k hk'; rw [hy] at this; have := this.lt.2; omega
    · rw [hd j ej] at hx
      by_cases ek : k = i
      · subst ek
        rw [hdi] at hy
        rcases hloc y hy with h1 | h1
        · exact h.ene j k x y hj hk' hne hx h1
        · have := h.en j hj; rw [hx] at this; have := this.lt.2; omega
      · rw [hd k ek] at hy; exact h.ene j k x y hj hk' hne hx hy
def updF (F : Nat → Nat → Option Nat) (i c v : Nat) : Nat → Nat → Option Nat := fun j => if j = i then updB (F i) c v else F j
theorem TreeM.setM (h : TreeM W B ga cap n q F T) (i : Nat) (hi : i < n) (c v : Nat) {m : Nat} (hm : (T.getD i dn).m = m) {W4 : World} (hb : MapB Try.prog 5 3 W4 m (q + 1) (updB (F i) c v)) (hgrow : W.grownBy W4 (some m)) :
    TreeM W4 B ga cap n (q + 1) (updF F i c v) T := by
  subst hm
  refine ⟨h.len, h.own.keep fun x hx => ?_, fun j hj => ?_, h.mne, fun j hj => (h.en j hj).keep fun x hx => ?_, h.ene⟩
  · cases hx
    exact hgrow.block ga h.ga_lt.2 (fun e => (h.ga_ne i hi).1 (Option.some.inj e).symm)
  · unfold updF
    by_cases e : j = i
    · subst e; rw [if_pos rfl]; exact ⟨hb, (h.mp j hj).2⟩
    · rw [if_neg e]
      exact ⟨(((h.mp j hj).1.keep (hgrow.block _ (h.mp j hj).1.lt (fun e2 => h.mne j i hj hi e (Option.some.inj e2)))).mono (by omega)), (h.mp j hj).2⟩
  · exact hgrow.block _ (by have := h.en j hj; rw [hx] at this; exact this.lt.2) (fun e => h.m_ne i j hi hj (by rw [hx]; exact e.symm))
def addF (F : Nat → Nat → Option Nat) (n : Nat) : Nat → Nat → Option Nat := fun j => if j = n then fun _ => none else F j
theorem TreeM.addN (h : TreeM W B ga cap n q F T) {W4 : World} {ga' cap' : Nat} (hown : Owns W4 B 53 3 (some ⟨ga', 0, none⟩) (n + 1) cap' (treeCells T ++ [.map (some W.heap.size), .int .i64 0, .slice none 0 0]))
    (hgrow : (W.alloc (.map #[] 0)).grownBy W4 (some ga)) (hBs : B ≤ W.heap.size) : TreeM W4 B ga' cap' (n + 1) q (addF F n) (T ++ [⟨W.heap.size, 0, none, [], 0⟩]) := by
  have h1 := h.alloc (.map #[] 0)
  have hnew : MapB Try.prog 5 3 (W.alloc (.map #[] 0)) W.heap.size 0 (fun _ => none) := MapB.made W
  have hga : ga < W.heap.size := h.ga_lt.2
  have hold : ∀ j, j < n → (T ++ [(⟨W.heap.size, 0, none, [], 0⟩ : Nd)]).getD j dn = T.getD j dn := by
    intro j hj
    rw [List.getD_eq_getElem?_getD, List.getElem?_append_left (by rw [h.len]; exact hj), List.getD_eq_getElem?_getD]
  have hnw : (T ++ [(⟨W.heap.size, 0, none, [], 0⟩ : Nd)]).getD n dn = ⟨W.heap.size, 0, none, [], 0⟩ := by
    rw [List.getD_eq_getElem?_getD, List.getElem?_append_right (by rw [h.len]; exact Nat.le_refl _), h.len, Nat.sub_self]; rfl
  have hmlt : ∀ j, j < n → (T.getD j dn).m < W.heap.size := fun j hj => (h.mp j hj).1.lt
  refine ⟨by simp [h.len], ?_, fun j hj => ?_, fun j k hj hk hne => ?_, fun j hj => ?_, fun j k x y hj hk hne hx hy => ?_⟩
  · rw [treeCells_app]; exact hown
  · unfold addF
    by_cases e : j = n
    · subst e
      rw [if_pos rfl, hnw]
      exact ⟨(hnew.keep (hgrow.block _ (by simp) (fun e => by have := Option.some.inj e; omega))).mono (Nat.zero_le _), hBs⟩
    · have hj' : j < n := by omega
      rw [if_neg e, hold j hj']
      exact ⟨(h1.mp j hj').1.keep (hgrow.block _ (h1.mp j hj').1.lt (fun e => (h.ga_ne j hj').1 (Option.some.inj e))), (h.mp j hj').2⟩
  · by_cases ej : j = n
    · subst ej
      have hk' : k < j := by omega
      rw [hnw, hold k hk']
      have := hmlt k hk'
      show W.heap.size ≠ _
      omega
    · have hj' : j < n := by omega
      rw [hold j hj']
      by_cases ek : k = n
      · subst ek
        rw [hnw]
        have := hmlt j hj'
        show _ ≠ W.heap.size
        omega
      · rw [hold k (by omega)]; exact h.mne j k hj' (by omega) hne
  · by_cases e : j = n
    · subst e; rw [hnw]; exact Owns.nil _ _ _ _
    · have hj' : j < n := by omega
      rw [hold j hj']
      refine (h1.en j hj').keep fun x hx => hgrow.block _ (by have := h1.en j hj'; rw [hx] at this; exact this.lt.2) (fun e => (h.ga_ne j hj').2 (by rw [hx]; exact e.symm))
  · by_cases ej : j = n
    · subst ej; rw [hnw] at hx; cases hx
    · by_cases ek : k = n
      · subst ek; rw [hnw] at hy; cases hy
      · rw [hold j (by omega)] at hx; rw [hold k (by omega)] at hy
        exact h.ene j k x y (by omega) (by omega) hne hx hy
end
end Go.Proofs.Ytkahceijhokmoaa
