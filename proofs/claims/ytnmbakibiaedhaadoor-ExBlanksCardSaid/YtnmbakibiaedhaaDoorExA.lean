/- Contract of ex.Parse: its parts. -/
import Derived.Test.YtnmbakibiaedhaaDoorUnhexW
import Derived.Test.YtnmbakibiaedhaaDoorPathA
import Derived.Test.YtnmbakibiaedhaaDoorOwn
import Derived.Test.YtnmbakibiaedhaaDoorOwnStep
namespace Go.Proofs.YtnmbakibiaedhaaDoor
open Go.RowKit Go.Shelf
set_option linter.unusedVariables false
set_option linter.unusedSimpArgs false
def strVals (L : List (List UInt8)) : List Value := L.map fun x => .string (bstr x)
theorem strVals_snoc (L : List (List UInt8)) (x : List UInt8) : strVals (L ++ [x]) = strVals L ++ [.string (bstr x)] := by simp [strVals]
theorem strVals_length (L : List (List UInt8)) : (strVals L).length = L.length := by simp [strVals]
theorem infoStr : (Tryd.prog.info? 9).map (fun i => (i.zero, i.size, i.bytes)) = some (some (.string ByteArray.empty), 1, 16) := by kernel_rfl
theorem blank_any (x : Nat) (w : World) : Calls Tryd.prog 66 #[.int .i32 (x : Nat)] w fun e w' => e = .returned (.bool (x == 32)) ∧ Below w.heap.size w w' := by
  by_cases h : x = 32
  · subst h
    go_enter Tryd.func66, Tryd.ntmps66
    go_wp2_with fail
    go_ret
    exact ⟨rfl, Below.refl _ _⟩
  · have e1 : (((x : Nat) : Int) == 32) = false := by rw [beq_eq_false_iff_ne]; omega
    have e2 : (x == 32) = false := by rw [beq_eq_false_iff_ne]; exact h
    rw [e2]
    clear h
    go_enter Tryd.func66, Tryd.ntmps66
    go_wp2_with fail
    go_ret
    exact ⟨rfl, Below.refl _ _⟩
theorem Fields_any (l : List UInt8) (w : World) (hl : l.length ≤ 100000) :
    Calls Tryd.prog 65 #[.string (bstr l), .func (.func 66) #[] #[]] w fun e w' => ∃ A, e = .returned (.slice (some ⟨A, 0, none⟩) (Ex.words l).length (Ex.words l).length) ∧
      Owns w' w.heap.size 9 1 (some ⟨A, 0, none⟩) (Ex.words l).length (Ex.words l).length (strVals (Ex.words l)) ∧ Below w.heap.size w w' := by
  have hw := Ex.fields_words (bstr l)
  rw [show (bstr l).data.toList = l from rfl] at hw
  have hv : (Lib.goFieldsP (fun r => r == 32) (bstr l)).map Value.string = strVals (Ex.words l) := by
    rw [← hw, strVals, List.map_map]
    exact List.map_congr_left fun s _ => congrArg Value.string (eq_bstr s)
  have hlen : (Lib.goFieldsP (fun r => r == 32) (bstr l)).length = (Ex.words l).length := by rw [← hw, List.length_map]
  have h := Tryd.strings_FieldsFunc_grows 66 #[] (enters_of Tryd.func66 (by kernel_rfl) rfl) (fun r => r == 32) (bstr l) w (by rw [bstr_size]; omega) (fun W x _ _ => blank_any x W)
  rw [hlen, hv] at h
  exact h.mono fun e w' ⟨A, h1, _, h3, h4⟩ => ⟨A, h1, h3, h4⟩
def CmdOut (o : Option Ex.Cmd) (B : Nat) (e : Ending) (w' : World) : Prop := match o with
  | none => e = .returned (.tuple #[.agg #[.string ByteArray.empty, .slice none 0 0, .slice none 0 0, .slice none 0 0], .iface 31 (.int .i64 3)])
  | some c => ∃ aN cN aB cB aP cP, e = .returned (.tuple #[.agg #[.string (bstr c.word), .slice aN c.n.length cN, .slice aB c.b.length cB, .slice aP c.p.length cP], .nilIface]) ∧
      Owns w' B 3 1 aN c.n.length cN (ivals c.n) ∧ Owns w' B 9 1 aB c.b.length cB (strVals c.b) ∧ Owns w' B 3 1 aP c.p.length cP (ivals c.p)
/-- what the loop of Parse holds -/
structure CmS (cb : Nat) (w1 W : World) (c : Ex.Cmd) (aN : Option Addr) (cN : Nat) (aB : Option Addr) (cB : Nat) (aP : Option Addr) (cP : Nat) : Prop where
  box : RowAt W cb 0 58 [.string (bstr c.word), .slice aN c.n.length cN, .slice aB c.b.length cB, .slice aP c.p.length cP]
  on : Owns W (cb + 1) 3 1 aN c.n.length cN (ivals c.n)
  ob : Owns W (cb + 1) 9 1 aB c.b.length cB (strVals c.b)
  op : Owns W (cb + 1) 3 1 aP c.p.length cP (ivals c.p)
  np : ∀ x y, aN = some x → aP = some y → x.block ≠ y.block
  bel : Below cb w1 W
theorem CmS.sz {cb cN cB cP : Nat} {w1 W : World} {c : Ex.Cmd} {aN aB aP : Option Addr} (h : CmS cb w1 W c aN cN aB cB aP cP) : cb + 1 ≤ W.heap.size := h.box.lt
theorem CmS.call {cb cN cB cP : Nat} {w1 W W' : World} {c : Ex.Cmd} {aN aB aP : Option Addr} (h : CmS cb w1 W c aN cN aB cB aP cP) (hb : Below W.heap.size W W') : CmS cb w1 W' c aN cN aB cB aP cP :=
  ⟨h.box.below hb h.box.lt, h.on.below hb (Nat.le_refl _), h.ob.below hb (Nat.le_refl _), h.op.below hb (Nat.le_refl _), h.np, h.bel.trans (hb.mono (Nat.le_of_lt h.box.lt))⟩
theorem blocks_ne {W : World} {B n1 n2 c1 c2 : Nat} {t1 t2 : TypeId} {x y : Addr} {xs ys : List Value} (h1 : Owns W B t1 1 (some x) n1 c1 xs) (h2 : Owns W B t2 1 (some y) n2 c2 ys) (ht : t1 ≠ t2) : x.block ≠ y.block := by
  intro e
  obtain ⟨_, _, _, _, cur1, fz1, r1, _⟩ := h1.row
  obtain ⟨_, _, _, _, cur2, fz2, r2, _⟩ := h2.row
  rw [e, r2] at r1
  injection r1 with r1
  injection r1 with _ r1 _
  exact ht r1.symm
theorem CmS.alloc {cb cN cB cP : Nat} {w1 W : World} {c : Ex.Cmd} {aN aB aP : Option Addr} (h : CmS cb w1 W c aN cN aB cB aP cP) (ob : Obj) : CmS cb w1 (W.alloc ob) c aN cN aB cB aP cP := h.call ((Below.refl _ _).alloc (Nat.le_refl _) ob)
theorem CmS.setN {cb cN cB cP cN' : Nat} {w1 W W4 : World} {c : Ex.Cmd} {aN aB aP aN' : Option Addr} {z : Int} (h : CmS cb w1 W c aN cN aB cB aP cP)
    (hown : Owns W4 (cb + 1) 3 1 aN' (c.n.length + 1) cN' (ivals c.n ++ [.int .i64 z])) (hgrow : W.grownBy W4 (blk aN)) (hloc : ∀ x, aN' = some x → aN = some x ∨ W.heap.size ≤ x.block) :
    RowAt W4 cb 0 58 [.string (bstr c.word), .slice aN c.n.length cN, .slice aB c.b.length cB, .slice aP c.p.length cP] ∧
    CmS cb w1 (W4.setCell ⟨cb, 1, none⟩ (.slice aN' (c.n.length + 1) cN')) { c with n := c.n ++ [z] } aN' cN' aB cB aP cP := by
  have hb4 := h.box.blk h.on hgrow (Nat.lt_succ_self _)
  have hz := h.sz
  refine ⟨hb4, ?_⟩
  have hne : ∀ (B1 : Nat) (t : TypeId) (n c' : Nat) (a : Option Addr) (xs : List Value), Owns W4 (cb + 1) t 1 a n c' xs → Owns (W4.setCell ⟨cb, 1, none⟩ (.slice aN' (c.n.length + 1) cN')) (cb + 1) t 1 a n c' xs := fun _ t n c' a xs ho => ho.far (p := ⟨cb, 1, none⟩) (fun x hx => by subst hx; have := ho.lt.1; show x.block ≠ cb; omega) _
  refine ⟨?_, ?_, ?_, ?_, ?_, ?_⟩
  · have := hb4.set0 1 (by simp) (.slice aN' (c.n.length + 1) cN')
    simp only [List.set_cons_succ, List.set_cons_zero] at this
    rw [show (c.n ++ [z]).length = c.n.length + 1 by simp]
    exact this
  · show Owns _ _ _ _ _ (c.n ++ [z]).length _ (ivals (c.n ++ [z]))
    rw [show (c.n ++ [z]).length = c.n.length + 1 by simp, show ivals (c.n ++ [z]) = ivals c.n ++ [.int .i64 z] by simp [ivals]]
    exact hne 0 _ _ _ _ _ hown
  · refine hne 0 _ _ _ _ _ (h.ob.grown hgrow ?_)
    intro x hx e
    cases haN : aN with
    | none => rw [haN] at e; cases e
    | some y =>
      have h1 := h.on; have h2 := h.ob
      rw [haN] at h1 e; rw [hx] at h2
      exact blocks_ne h2 h1 (by decide) (Option.some.inj e)
  · refine hne 0 _ _ _ _ _ (h.op.grown hgrow ?_)
    intro x hx e
    cases haN : aN with
    | none => rw [haN] at e; cases e
    | some y => rw [haN] at e; exact h.np y x haN hx (Option.some.inj e).symm
  · intro x y hx hy e
    rcases hloc x hx with h1 | h1
    · exact h.np x y h1 hy e
    · have h2 := h.op
      rw [hy] at h2
      have := h2.lt.2
      omega
  · exact (below_blk h.bel h.on (by omega) (by omega) hgrow).setCell (p := ⟨cb, 1, none⟩) (Nat.le_refl _) _
theorem CmS.setB {cb cN cB cP cB' : Nat} {w1 W W4 : World} {c : Ex.Cmd} {aN aB aP aB' : Option Addr} {t : List UInt8} (h : CmS cb w1 W c aN cN aB cB aP cP)
    (hown : Owns W4 (cb + 1) 9 1 aB' (c.b.length + 1) cB' (strVals c.b ++ [.string (bstr t)])) (hgrow : W.grownBy W4 (blk aB)) :
    RowAt W4 cb 0 58 [.string (bstr c.word), .slice aN c.n.length cN, .slice aB c.b.length cB, .slice aP c.p.length cP] ∧
    CmS cb w1 (W4.setCell ⟨cb, 2, none⟩ (.slice aB' (c.b.length + 1) cB')) { c with b := c.b ++ [t] } aN cN aB' cB' aP cP := by
  have hb4 := h.box.blk h.ob hgrow (Nat.lt_succ_self _)
  have hz := h.sz
  refine ⟨hb4, ?_⟩
  have hne : ∀ (B1 : Nat) (t : TypeId) (n c' : Nat) (a : Option Addr) (xs : List Value), Owns W4 (cb + 1) t 1 a n c' xs → Owns (W4.setCell ⟨cb, 2, none⟩ (.slice aB' (c.b.length + 1) cB')) (cb + 1) t 1 a n c' xs := fun _ t n c' a xs ho => ho.far (p := ⟨cb, 2, none⟩) (fun x hx => by subst hx; have := ho.lt.1; show x.block ≠ cb; omega) _
  have hni : ∀ (a : Option Addr) (n c' : Nat) (xs : List Value), Owns W (cb + 1) 3 1 a n c' xs → Owns W4 (cb + 1) 3 1 a n c' xs := by
    intro a n c' xs ho
    refine ho.grown hgrow ?_
    intro x hx e
    cases haB : aB with
    | none => rw [haB] at e; cases e
    | some y =>
      have h2 := h.ob
      rw [haB] at h2 e; rw [hx] at ho
      exact blocks_ne ho h2 (by decide) (Option.some.inj e)
  refine ⟨?_, hne 0 _ _ _ _ _ (hni _ _ _ _ h.on), ?_, hne 0 _ _ _ _ _ (hni _ _ _ _ h.op), h.np, ?_⟩
  · have := hb4.set0 2 (by simp) (.slice aB' (c.b.length + 1) cB')
    simp only [List.set_cons_succ, List.set_cons_zero] at this
    rw [show (c.b ++ [t]).length = c.b.length + 1 by simp]
    exact this
  · show Owns _ _ _ _ _ (c.b ++ [t]).length _ (strVals (c.b ++ [t]))
    rw [show (c.b ++ [t]).length = c.b.length + 1 by simp, strVals_snoc]
    exact hne 0 _ _ _ _ _ hown
  · exact (below_blk h.bel h.ob (by omega) (by omega) hgrow).setCell (p := ⟨cb, 2, none⟩) (Nat.le_refl _) _
theorem CmS.setP {cb cN cB cP cP' : Nat} {w1 W W4 : World} {c : Ex.Cmd} {aN aB aP aP' : Option Addr} {l : List Int} (h : CmS cb w1 W c aN cN aB cB aP cP)
    (hown : Owns W4 W.heap.size 3 1 aP' l.length cP' (ivals l)) (hb : Below W.heap.size W W4) :
    CmS cb w1 (W4.setCell ⟨cb, 3, none⟩ (.slice aP' l.length cP')) { c with p := l } aN cN aB cB aP' cP' := by
  have h4 := h.call hb
  have hz := h.sz
  have hne : ∀ (B1 : Nat) (t : TypeId) (n c' : Nat) (a : Option Addr) (xs : List Value), Owns W4 (cb + 1) t 1 a n c' xs → Owns (W4.setCell ⟨cb, 3, none⟩ (.slice aP' l.length cP')) (cb + 1) t 1 a n c' xs := fun _ t n c' a xs ho => ho.far (p := ⟨cb, 3, none⟩) (fun x hx => by subst hx; have := ho.lt.1; show x.block ≠ cb; omega) _
  refine ⟨?_, hne 0 _ _ _ _ _ h4.on, hne 0 _ _ _ _ _ h4.ob, hne 0 _ _ _ _ _ (hown.mono hz), ?_, ?_⟩
  · have := h4.box.set0 3 (by simp) (.slice aP' l.length cP')
    simp only [List.set_cons_succ, List.set_cons_zero] at this
    exact this
  · intro x y hx hy e
    have h1 := h.on; have h2 := hown
    rw [hx] at h1; rw [hy] at h2
    have := h1.lt.2; have := h2.lt.1
    omega
  · exact h4.bel.setCell (p := ⟨cb, 3, none⟩) (Nat.le_refl _) _
end Go.Proofs.YtnmbakibiaedhaaDoor
