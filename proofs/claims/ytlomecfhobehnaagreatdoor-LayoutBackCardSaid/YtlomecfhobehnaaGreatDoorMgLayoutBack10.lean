/- Templates in plain words: what tokens are read as, what is written. -/
import Derived.Test.YtlomecfhobehnaaGreatDoorMgLayoutBack6
import Derived.Test.YtlomecfhobehnaaGreatDoorMgLayoutBack9
import Derived.Test.YtlomecfhobehnaaGreatDoorMgLayoutBack7
section
/- errors.As and api.Tell at an error that is an *api.At. -/
namespace Go.Proofs.YtlomecfhobehnaaGreatDoor
open Go.RowKit Go.Extern.Stop Go.Stop Go.Extern
set_option linter.unusedVariables false
set_option linter.unusedSimpArgs false
namespace ErrAsAt
theorem typeOfA (v : Value) (w : World) : (ReflectliteType.typeOf #[.iface 120 v]).run Tryz.prog w = .ok (.iface 175 (.agg #[hdl 120])) w := by kernel_rfl
theorem assignableA (w : World) : (ReflectliteType.relation "AssignableTo" ReflectliteType.assignableTo #[.agg #[hdl 120], .iface 175 (.agg #[hdl 48])]).run Tryz.prog w = .ok (.bool false) w := by kernel_rfl
theorem assertAs (p : Option Addr) (w : World) : (Instr.typeAssert (.iface 120 (.pointer p)) 30 180 true).run Tryz.prog w = .ok (.tuple #[.nilIface, .bool false]) w := run_typeAssert_lacksB Tryz.underlying180 (by kernel_rfl) (by kernel_rfl) _ _ w
theorem assertUn (p : Option Addr) (w : World) : (Instr.typeAssert (.iface 120 (.pointer p)) 30 183 true).run Tryz.prog w = .ok (.tuple #[.iface 120 (.pointer p), .bool true]) w := by kernel_rfl
theorem mUnwrap (p : Option Addr) (w : World) : (Go.method 368 120 (.pointer p) "Unwrap").run Tryz.prog w = .ok (178, .pointer p) w := by kernel_rfl
end ErrAsAt
theorem Unwrap_any (g : Nat) (n : Int) (w : World) (h : w.cell? ⟨g, 0, none⟩ = some (.int .i64 n)) : Calls Tryz.prog 178 #[.pointer (some ⟨g, 0, none⟩)] w fun e w' => e = .returned (.iface 48 (.int .i64 n)) ∧ w' = w := by
  go_enter Tryz.func178, Tryz.ntmps178
  go_wp2
  go_ret
  exact ⟨rfl, rfl⟩
set_option maxRecDepth 100000 in
set_option maxHeartbeats 4000000 in
theorem as_at (g : Nat) (pl n : Int) (t : Addr) (old : Value) (w : World) (hg : ErrType w) (hrow : RowAt w g 0 122 [.int .i64 n, .int .i64 pl]) (ht0 : w.cell? t = some old) (hf0 : w.frozen? t = false) :
    Calls Tryz.prog 46 #[.iface 120 (.pointer (some ⟨g, 0, none⟩)), .iface 86 (.pointer (some t))] w fun ev w' => ev = .returned (.bool true) ∧ w' = ((asW w t).alloc (.cells #[.int .i64 n] 48)).setCell t (.int .i64 n) := by
  have hV := @run_callFunc_extern Tryz.prog 77 _ (fun args => ReflectliteValue.unpack (args.getD 0 (.tuple #[]))) Tryz.func77 (by kernel_rfl) (by kernel_rfl) (by kernel_rfl) (by kernel_rfl)
  have hT := @run_callFunc_extern Tryz.prog 78 _ (ReflectliteValue.methodAny (ReflectliteValue.valueError "reflectlite.Value.Type" 0) (fun t _ _ _ => ReflectliteType.toType t)) Tryz.func78 (by kernel_rfl) (by kernel_rfl) (by kernel_rfl) (by kernel_rfl)
  have hN := @run_callFunc_extern Tryz.prog 79 _ (ReflectliteValue.method (ReflectliteValue.valueError "reflectlite.Value.IsNil" 0) ReflectliteValue.isNil) Tryz.func79 (by kernel_rfl) (by kernel_rfl) (by kernel_rfl) (by kernel_rfl)
  have hK := @run_callFunc_extern Tryz.prog 173 _ (ReflectliteType.abiMethod fun t => do pure (.int .u8 (← Rtype.kind t))) Tryz.func173 (by kernel_rfl) (by kernel_rfl) (by kernel_rfl) (by kernel_rfl)
  have hE := @run_callFunc_extern Tryz.prog 186 _ (ReflectliteType.method ReflectliteType.elem) Tryz.func186 (by kernel_rfl) (by kernel_rfl) (by kernel_rfl) (by kernel_rfl)
  have hI := @run_callFunc_extern Tryz.prog 187 _ (ReflectliteType.relation "Implements" ReflectliteType.implements_) Tryz.func187 (by kernel_rfl) (by kernel_rfl) (by kernel_rfl) (by kernel_rfl)
  have hTO := @run_callFunc_extern Tryz.prog 103 _ ReflectliteType.typeOf Tryz.func103 (by kernel_rfl) (by kernel_rfl) (by kernel_rfl) (by kernel_rfl)
  have hA := @run_callFunc_extern Tryz.prog 184 _ (ReflectliteType.relation "AssignableTo" ReflectliteType.assignableTo) Tryz.func184 (by kernel_rfl) (by kernel_rfl) (by kernel_rfl) (by kernel_rfl)
  have hVE := @run_callFunc_extern Tryz.prog 104 _ (ReflectliteValue.method (ReflectliteValue.valueError "reflectlite.Value.Elem" 0) ReflectliteValue.elem) Tryz.func104 (by kernel_rfl) (by kernel_rfl) (by kernel_rfl) (by kernel_rfl)
  have hVS := @run_callFunc_extern Tryz.prog 105 _ ReflectliteValue.set Tryz.func105 (by kernel_rfl) (by kernel_rfl) (by kernel_rfl) (by kernel_rfl)
  have tO := ErrAs.typeOfE
  have tA := ErrAsAt.typeOfA
  have aA := ErrAsAt.assignableA
  have xA := ErrAsAt.assertAs (some ⟨g, 0, none⟩)
  have xU := ErrAsAt.assertUn (some ⟨g, 0, none⟩)
  have mU := ErrAsAt.mUnwrap (some ⟨g, 0, none⟩)
  have hcell : (asW w t).cell? ⟨g, 0, none⟩ = some (.int .i64 n) := by
    have hb := (((Below.refl w.heap.size w).alloc (Nat.le_refl _) (.cells #[.pointer (some t)] 86)).alloc (by simp) (.cells #[hdl 86, .pointer (some ⟨w.heap.size, 0, none⟩), .int .u64 150] 137)).alloc (by simp; omega) (.cells #[hdl 86, .pointer (some ⟨w.heap.size, 0, none⟩), .int .u64 150] 137)
    rw [hb.cell (p := ⟨g, 0, none⟩) hrow.lt]
    exact hrow.cell0 0 (by simp)
  have mA := ErrAs.mAssignableTo
  have aE := ErrAs.assignableE
  have vE := ErrAs.valueOfE
  have f6 := ErrAs.valueOfP
  have f7 := ErrAs.typeP
  have mK := ErrAs.mKind
  have mE := ErrAs.mElem
  have mI := ErrAs.mImplements
  have kP := ErrAs.kindP
  have kE := ErrAs.kindE
  have eP := ErrAs.elemP
  have iE := ErrAs.implementsE
  have hlt : 0 < w.heap.size := hg.lt
  have htl : t.block < w.heap.size := by
    rcases Nat.lt_or_ge t.block w.heap.size with h | h
    · exact h
    · simp [World.cell?, Array.getElem?_eq_none h] at ht0
  have n8 := ErrAs.isNilP ⟨w.heap.size, 0, none⟩ t ((w.alloc (.cells #[.pointer (some t)] 86)).alloc (.cells #[hdl 86, .pointer (some ⟨w.heap.size, 0, none⟩), .int .u64 150] 137)) (by simp)
  have hg2 : ((w.alloc (.cells #[.pointer (some t)] 86)).alloc (.cells #[hdl 86, .pointer (some ⟨w.heap.size, 0, none⟩), .int .u64 150] 137)).cell? ⟨0, 0, none⟩ = some (.iface 175 (.agg #[hdl 30])) := by
    rw [World.cell?_alloc_lt _ _ ⟨0, 0, none⟩ (by simp <;> omega), World.cell?_alloc_lt _ _ ⟨0, 0, none⟩ hlt]; exact hg
  have el := ErrAs.elemV ⟨w.heap.size, 0, none⟩ t (asW w t) (by rw [World.cell?_alloc_lt _ _ ⟨w.heap.size, 0, none⟩ (by simp; omega)]; simp)
  have st := ErrAs.setE t ⟨w.heap.size + 1 + 1 + 1, 0, none⟩ n old ((asW w t).alloc (.cells #[.int .i64 n] 48))
    (by rw [World.cell?_alloc_at _ _ _ _ (by simp)]; rfl)
    (by rw [World.cell?_alloc_lt _ _ t (by simp; omega), World.cell?_alloc_lt _ _ t (by simp; omega), World.cell?_alloc_lt _ _ t (by simp; omega), World.cell?_alloc_lt _ _ t htl]; exact ht0)
    (by rw [World.frozen?_alloc_old _ _ t (by simp; omega), World.frozen?_alloc_old _ _ t (by simp; omega), World.frozen?_alloc_old _ _ t (by simp; omega), World.frozen?_alloc_old _ _ t (Nat.ne_of_lt htl)]; exact hf0)
  go_enter Tryz.func46, Tryz.ntmps46
  go_wp2
  refine wp_loop_rounds 2 ?_
  rw [rounds_succ]
  go_wp2_with (go_at_call 178; refine (Unwrap_any g n _ hcell).mono ?_; rintro e w' ⟨rfl, rfl⟩)
  rw [rounds_succ]
  go_wp2
  go_ret
  exact ⟨rfl, rfl⟩
set_option maxRecDepth 100000 in
theorem Tell_at (g : Nat) (n pl : Int) (w : World) (hg : ErrType w) (hrow : RowAt w g 0 122 [.int .i64 n, .int .i64 pl]) : Calls Tryz.prog 21 #[.iface 120 (.pointer (some ⟨g, 0, none⟩))] w fun e w' => e = .returned (.int .i64 n) ∧ Below w.heap.size w w' := by
  have has := as_at g pl n ⟨w.heap.size, 0, none⟩ (.int .i64 0) (w.alloc (.cells #[.int .i64 0] 48)) (hg.below ((Below.refl _ w).alloc (Nat.le_refl _) _) hg.lt) (hrow.alloc _) (by simp) (by simp)
  have hb := asW_below (w.alloc (.cells #[.int .i64 0] 48)) ⟨w.heap.size, 0, none⟩ n
  have hb2 := (((Below.refl _ w).alloc (Nat.le_refl _) (.cells #[.int .i64 0] 48)).trans (hb.mono (by simp))).setCell (p := ⟨w.heap.size, 0, none⟩) (Nat.le_refl _) (.int .i64 n)
  have hc : (((asW (w.alloc (.cells #[.int .i64 0] 48)) ⟨w.heap.size, 0, none⟩).alloc (.cells #[.int .i64 n] 48)).setCell ⟨w.heap.size, 0, none⟩ (.int .i64 n)).cell? ⟨w.heap.size, 0, none⟩ = some (.int .i64 n) := by
    refine World.cell?_setCell_same' _ _ _ ?_
    rw [hb.cell (p := ⟨w.heap.size, 0, none⟩) (by simp)]
    simp
  generalize ((asW (w.alloc (.cells #[.int .i64 0] 48)) ⟨w.heap.size, 0, none⟩).alloc (.cells #[.int .i64 n] 48)).setCell ⟨w.heap.size, 0, none⟩ (.int .i64 n) = w9 at *
  have HAS := Lib.hid has; clear has hb
  go_enter Tryz.func21, Tryz.ntmps21
  go_wp2_with fail
  refine HAS.out.mono ?_
  rintro e w1 ⟨rfl, rfl⟩
  go_wp2_with fail
  go_ret
  exact ⟨rfl, hb2⟩
end Go.Proofs.YtlomecfhobehnaaGreatDoor
end
section
/- The law ExprAgain: its facts. -/
namespace Go.Proofs.YtlomecfhobehnaaGreatDoor
open Go.RowKit
set_option linter.unusedVariables false
set_option linter.unusedSimpArgs false
open Rd
open Ex (X levels)
/-- what is read of a text: all of it -/
theorem reads_total (s : List UInt8) (hs : s.length ≤ 3000) : Lex.lexA s 0 = none ∨ ∃ T o, Lex.lexA s 0 = some T ∧ Ex.Par Num.numOf s.length (.lev 0) 0 T o := by
  cases h : Lex.lexA s 0 with
  | none => exact .inl rfl
  | some T =>
    obtain ⟨o, ho⟩ := Ex.total (num := Num.numOf) (E := s.length) T.length T 0 (Nat.le_refl _) (fun t ht => (Ex.words s.length s 0 T (Nat.le_refl _) h t ht).1) (by omega) 0 (by omega)
    exact .inr ⟨T, o, rfl, ho⟩
theorem long_any (l : List UInt8) (w : World) : Calls Tryz.prog 24 #[.string (bstr l)] w fun e w' => e = .returned (.bool (decide (900 < l.length))) ∧ w = w' := by
  by_cases h : 900 < l.length
  · have d1 : decide ((900 : Int) < (l.length : Int)) = true := decide_eq_true (by omega)
    rw [decide_eq_true h]
    go_enter Tryz.func24, Tryz.ntmps24
    go_wp2_with fail
    go_ret
    exact ⟨rfl, rfl⟩
  · have d1 : decide ((900 : Int) < (l.length : Int)) = false := decide_eq_false (by omega)
    rw [decide_eq_false h]
    go_enter Tryz.func24, Tryz.ntmps24
    go_wp2_with fail
    go_ret
    exact ⟨rfl, rfl⟩
/-- an error that is told -/
theorem Tell_err {w : World} {v : Value} {n : Nat} (h : ErrIs w v n) (hg : ErrType w) : Calls Tryz.prog 21 #[v] w fun e w' => e = .returned (.int .i64 (n : Nat)) ∧ Below w.heap.size w w' := by
  rcases h with rfl | ⟨g, p, rfl, hrow⟩
  · exact Tell_errno n w hg
  · exact (Tell_at g n p w hg hrow).mono fun e w' h => ⟨h.1, h.2⟩
/-- how big: nodes, and what is written -/
def nodes : X → Nat
  | .bin _ _ l r => nodes l + nodes r + 1
  | _ => 1
theorem nodes_read {num : Ex.NumOf} {E : Nat} {c : Ex.Cat} {d : Nat} {T : List Rd.Tok} {o : Ex.Out} (h : Ex.Par num E c d T o) : ∀ x R, o = .ok x R → nodes x + R.length ≤ T.length + (match c with | .loop _ y => nodes y | _ => 0) := by
  induction h with
  | top _ ih => intro x R e; exact ih x R e
  | lev _ _ _ ih1 ih2 =>
    intro x R e
    have h1 := ih1 _ _ rfl
    have h2 := ih2 x R e
    simp only at h1 h2 ⊢
    omega
  | levBad => intro x R e; cases e
  | done _ => intro x R e; cases e; simp only; omega
  | more _ _ _ ih1 ih2 =>
    intro x R e
    have h1 := ih1 _ _ rfl
    have h2 := ih2 x R e
    simp only [nodes, List.length_cons] at h1 h2 ⊢
    omega
  | moreBad => intro x R e; cases e
  | paren _ _ _ _ ih =>
    intro x R e
    cases e
    have h1 := ih _ _ rfl
    simp only [List.length_cons] at h1 ⊢
    omega
  | parenNone => intro x R e; cases e
  | parenBad => intro x R e; cases e
  | deep => intro x R e; cases e
  | name => intro x R e; cases e; simp only [nodes, List.length_cons]; omega
  | nameLong => intro x R e; cases e
  | none => intro x R e; cases e
  | mark => intro x R e; cases e
  | num => intro x R e; cases e; simp only [nodes, List.length_cons]; omega
  | numBad => intro x R e; cases e
theorem level_short (k : Nat) : ∀ m ∈ levels k, m.length ≤ 2 := by
  intro m hm
  exact (Lex.marks_ne m (Ex.level_mark k m hm).1).2
theorem wdt_le (n : Nat) : Num.wdt n ≤ 24 := by
  unfold Num.wdt
  cases h : (List.range 25).find? (fun j => decide (1 ≤ j) && decide (n < 10 ^ j)) with
  | none => simp
  | some j =>
    have := List.mem_of_find?_eq_some h
    rw [List.mem_range] at this
    simp only [Option.getD_some]; omega
theorem pr_length : ∀ x : X, Ex.Fine Num.numOf Num.dec x → (Ex.pr Num.dec x).length ≤ 30 * nodes x
  | .num _ n, h => by
    have := wdt_le n
    show (Num.dec n).length ≤ _
    rw [Num.dec, Digits.ds_length]
    simp only [nodes]; omega
  | .name _ s, h => by
    have := h.2.1
    show s.length ≤ _
    simp only [nodes]; omega
  | .bin _ op l r, h => by
    have h1 := pr_length l h.2.1
    have h2 := pr_length r h.2.2
    have h3 := level_short _ op (Ex.level_of op h.1)
    have pl : ∀ (y : X) k, (partOf y k).length ≤ (Ex.pr Num.dec y).length + 2 := by
      intro y k
      unfold partOf
      split
      · simp
      · omega
    have e1 := pl l (Ex.opLevel op)
    have e2 := pl r (Ex.opLevel op + 1)
    rw [pr_bin]
    simp only [List.length_append, List.length_cons, nodes]
    omega
theorem toks_le : ∀ (n : Nat) (l : List UInt8) (i : Nat) (T : List Rd.Tok), l.length ≤ n → Lex.lexA l i = some T → T.length ≤ l.length ∧ ∀ t ∈ T, t.1.length ≤ l.length := by
  intro n
  induction n with
  | zero =>
    intro l i T h hT
    obtain rfl := List.eq_nil_of_length_eq_zero (Nat.le_zero.1 h)
    rw [Lex.lexA_nil] at hT
    cases hT
    exact ⟨Nat.le_refl _, fun t ht => by cases ht⟩
  | succ n ih =>
    intro l i T h hT
    cases l with
    | nil => rw [Lex.lexA_nil] at hT; cases hT; exact ⟨Nat.le_refl _, fun t ht => by cases ht⟩
    | cons c l =>
      rw [List.length_cons] at h
      by_cases h1 : c = 32 ∨ c = 10 ∨ c = 9
      · rw [Lex.lexA_blank c l i h1] at hT
        have := ih l _ T (by omega) hT
        exact ⟨by rw [List.length_cons]; omega, fun t ht => by have := this.2 t ht; rw [List.length_cons]; omega⟩
      · by_cases h2 : c = 35
        · subst h2
          rw [Lex.lexA_note] at hT
          have hp := Lex.note_pos l
          have := ih _ _ T (by rw [List.length_drop, List.length_cons]; omega) hT
          rw [List.length_drop] at this
          exact ⟨by omega, fun t ht => by have := this.2 t ht; omega⟩
        · by_cases h3 : Lex.next (c :: l) = 0
          · rw [Lex.lexA_bad c l i h1 h2 h3] at hT; cases hT
          · rw [Lex.lexA_tok c l i h1 h2 h3, Option.map_eq_some_iff] at hT
            obtain ⟨T', hT', rfl⟩ := hT
            have := ih _ _ T' (by rw [List.length_drop, List.length_cons]; omega) hT'
            rw [List.length_drop] at this
            refine ⟨by rw [List.length_cons, List.length_cons]; rw [List.length_cons] at this; omega, fun t ht => ?_⟩
            rcases List.mem_cons.1 ht with rfl | ht
            · simp only [List.length_take]; omega
            · have := this.2 t ht; omega
end Go.Proofs.YtlomecfhobehnaaGreatDoor
end
section
/- The tables in a later world; tokens of a text. -/
namespace Go.Proofs.YtlomecfhobehnaaGreatDoor
open Go.RowKit
set_option linter.unusedVariables false
set_option linter.unusedSimpArgs false
open Rd
open Ex (X levels)
theorem Same.fine {num : Ex.NumOf} {dec : Ex.Dec} {x y : X} (h : Ex.Same x y) (hx : Ex.Fine num dec x) : Ex.Fine num dec y := by
  induction h with
  | num => exact hx
  | name => exact hx
  | bin a b op _ _ ih1 ih2 => exact ⟨hx.1, ih1 hx.2.1, ih2 hx.2.2⟩
theorem toks_of {s : List UInt8} {L : List (List UInt8)} (h : Ex.texts s 0 = some L) : ∃ T, Lex.lexA s 0 = some T ∧ T.map Prod.fst = L := by
  unfold Ex.texts at h
  rw [Option.map_eq_some_iff] at h
  exact h
theorem few_toks {s : List UInt8} {T : List Rd.Tok} (hs : s.length ≤ 3000) (h : Lex.lexA s 0 = some T) : ∀ t ∈ T, t.1.length ≤ 100000 := fun t ht => by
  have := (toks_le s.length s 0 T (Nat.le_refl _) h).2 t ht
  omega
theorem env_up {w w' : World} {B : Nat} (h : Env w B) (hb : Below w.heap.size w w') (hB : B ≤ w.heap.size) : Env w' B := by
  have key : ∀ (p : Addr), p.block < B → w'.cell? p = w.cell? p := fun p hlt => hb.cell (p := p) (Nat.lt_of_lt_of_le hlt hB)
  refine ⟨⟨h.lv.1, fun k hk => ?_⟩, (key ⟨_, 0, none⟩ h.eb).trans h.er, h.eb⟩
  obtain ⟨gk, ck, h1, h2, h3⟩ := h.lv.2 k hk
  exact ⟨gk, ck, (key ⟨_, k, none⟩ h.lv.1).trans h1, h2, fun j hj => (key (gk.add j) (by rw [Addr.add_block]; exact h2)).trans (h3 j hj)⟩
theorem env_to {w : World} {B B' : Nat} (h : Env w B) (hB : B ≤ B') : Env w B' := by
  refine ⟨⟨Nat.lt_of_lt_of_le h.lv.1 hB, fun k hk => ?_⟩, h.er, Nat.lt_of_lt_of_le h.eb hB⟩
  obtain ⟨gk, ck, h1, h2, h3⟩ := h.lv.2 k hk
  exact ⟨gk, ck, h1, Nat.lt_of_lt_of_le h2 hB, h3⟩
/-- the tables, in a later world -/
structure Base (w : World) : Prop where
  env : Env w w.heap.size
  mks : MarksAt w
theorem Base.up {w w' : World} (h : Base w) (hb : Below w.heap.size w w') : Base w' := ⟨env_to (env_up h.env hb (Nat.le_refl _)) hb.size, h.mks.below hb (Nat.le_refl _)⟩
end Go.Proofs.YtlomecfhobehnaaGreatDoor
end
section
/- lex.Name of any text. -/
namespace Go.Proofs.YtlomecfhobehnaaGreatDoor
open Go.RowKit
set_option linter.unusedVariables false
set_option linter.unusedSimpArgs false
open Rd
theorem Name_none (w : World) : Calls Tryz.prog 86 #[.string (bstr [])] w fun e w' => e = .returned (.bool false) ∧ w = w' := by
  go_enter Tryz.func86, Tryz.ntmps86
  go_wp2_with fail
  go_ret
  exact ⟨rfl, rfl⟩
def isName : List UInt8 → Bool
  | [] => false
  | c :: _ => Lex.letter c.toNat
theorem Name_all (s : List UInt8) (w : World) : Calls Tryz.prog 86 #[.string (bstr s)] w fun e w' => e = .returned (.bool (isName s)) ∧ w = w' := by
  cases s with
  | nil => exact Name_none w
  | cons c r => exact Name_any c r w
end Go.Proofs.YtlomecfhobehnaaGreatDoor
end
section
/- Templates in plain words: what tokens are read as, what is written. -/
namespace Go.Proofs.YtlomecfhobehnaaGreatDoor
set_option linter.unusedVariables false
set_option linter.unusedSimpArgs false
namespace Tm
open Ex
abbrev Wd := List UInt8
/-- a name's or a word's text out of letters -/
def wU8 : Wd := [117, 56]
def numWords : List (Wd × Nat × Nat × Bool) :=
  [([117, 56], 1, 0, false), ([105, 56], 1, 0, true),
   ([117, 49, 54, 108, 101], 2, 0, false), ([117, 49, 54, 98, 101], 2, 1, false), ([105, 49, 54, 108, 101], 2, 0, true), ([105, 49, 54, 98, 101], 2, 1, true),
   ([117, 51, 50, 108, 101], 4, 0, false), ([117, 51, 50, 98, 101], 4, 1, false), ([105, 51, 50, 108, 101], 4, 0, true), ([105, 51, 50, 98, 101], 4, 1, true),
   ([105, 54, 52, 108, 101], 8, 0, true), ([105, 54, 52, 98, 101], 8, 1, true)]
def kindOf (w : Wd) : Option (Nat × Nat × Bool) := (numWords.find? fun p => p.1 == w).map (·.2)
def wStruct : Wd := [115, 116, 114, 117, 99, 116]
def wBytes : Wd := [98, 121, 116, 101, 115]
def wWhen : Wd := [119, 104, 101, 110]
def wSize : Wd := [115, 105, 122, 101]
def wCount : Wd := [99, 111, 117, 110, 116]
def wCheck : Wd := [99, 104, 101, 99, 107]
def keptWords : List Wd := [wStruct, wBytes, wWhen, wSize, wCount, wCheck]
def keptB (w : Wd) : Bool := (kindOf w).isSome || keptWords.contains w
def lettered : Wd → Bool
  | [] => false
  | c :: _ => Lex.letter c.toNat
def nameB (w : Wd) : Bool := lettered w && !keptB w && decide (w.length ≤ 12)
inductive Rl where
  | none
  | size (f : Wd)
  | count (f : Wd)
  | check (f l : Wd)
inductive Knd where
  | scalar (w : Wd)
  | bytes
  | struct (t : Wd)
structure Hd where
  at_ : Nat
  k : Knd
  name : Wd
  cnt : Option X
  rule : Rl
inductive Its where
  | nil
  | cons (h : Hd) (l : Its)
  | when (a : Nat) (c : X) (b l : Its)
structure Ty where
  name : Wd
  at_ : Nat
  items : Its
abbrev ParT (E : Nat) (T : List Tok) (x : X) (R : List Tok) : Prop := Par Num.numOf E (.lev 0) 0 T (.ok x R)
def textOf : List Tok → Wd
  | [] => []
  | t :: _ => t.1
inductive Cnt (E : Nat) : List Tok → Option X → List Tok → Prop where
  | no {T} : textOf T ≠ [91] → Cnt E T none T
  | yes {t u : Tok} {T R : List Tok} {c : X} : t.1 = [91] → ParT E T c (u :: R) → u.1 = [93] → Cnt E (t :: T) (some c) R
inductive RuleP : List Tok → Rl → List Tok → Prop where
  | size {t u : Tok} {R : List Tok} : t.1 = wSize → nameB u.1 = true → RuleP (t :: u :: R) (.size u.1) R
  | count {t u : Tok} {R : List Tok} : t.1 = wCount → nameB u.1 = true → RuleP (t :: u :: R) (.count u.1) R
  | check1 {t u : Tok} {R : List Tok} : t.1 = wCheck → nameB u.1 = true → textOf R = [59] → RuleP (t :: u :: R) (.check u.1 u.1) R
  | check2 {t u v : Tok} {R : List Tok} : t.1 = wCheck → nameB u.1 = true → v.1 ≠ [59] → nameB v.1 = true → RuleP (t :: u :: v :: R) (.check u.1 v.1) R
/-- what stands between an item's name and its end -/
inductive TailP (E : Nat) : Knd → List Tok → Option X → Rl → List Tok → Prop where
  | cnt {k : Knd} {T R : List Tok} {c : Option X} : Cnt E T c R → (k = .bytes → c ≠ none) → TailP E k T c .none R
  | rule {w : Wd} {t : Tok} {T R : List Tok} {r : Rl} : t.1 = [61] → RuleP T r R → TailP E (.scalar w) (t :: T) none r R
inductive KndP : Tok → Knd → Prop where
  | scalar {t : Tok} : (kindOf t.1).isSome = true → KndP t (.scalar t.1)
  | bytes {t : Tok} : t.1 = wBytes → KndP t .bytes
  | struct {t : Tok} : nameB t.1 = true → KndP t (.struct t.1)
/-- an item that is no 'when' -/
inductive HdP (E : Nat) : List Tok → Hd → List Tok → Prop where
  | mk {t n s : Tok} {T R : List Tok} {k : Knd} {c : Option X} {r : Rl} : KndP t k → nameB n.1 = true → TailP E k T c r (s :: R) → s.1 = [59] → HdP E (t :: n :: T) ⟨t.2, k, n.1, c, r⟩ R
/-- what is left of a block, so deep, with so many items -/
inductive Blk (E : Nat) : Nat → Nat → List Tok → Its → List Tok → Prop where
  | fin {d n : Nat} {t : Tok} {R : List Tok} : t.1 = [125] → Blk E d n (t :: R) .nil R
  | item {d n : Nat} {T R1 R : List Tok} {h : Hd} {l : Its} : n < 16 → HdP E T h R1 → Blk E d (n + 1) R1 l R → Blk E d n T (.cons h l) R
  | when {d n : Nat} {t b : Tok} {T T2 R1 R : List Tok} {c : X} {body l : Its} : n < 16 → t.1 = wWhen → ParT E T c (b :: T2) → b.1 = [123] → d + 1 ≤ 8 → Blk E (d + 1) 0 T2 body R1 → Blk E d (n + 1) R1 l R → Blk E d n (t :: T) (.when t.2 c body l) R
inductive Tys (E : Nat) : Nat → List Tok → List Ty → Prop where
  | fin {n : Nat} : Tys E n [] []
  | one {n : Nat} {t m b : Tok} {T R : List Tok} {l : Its} {r : List Ty} : n < 8 → t.1 = wStruct → nameB m.1 = true → b.1 = [123] → Blk E 1 0 T l R → Tys E (n + 1) R r → Tys E n (t :: m :: b :: T) (⟨m.1, m.2, l⟩ :: r)
/-- the same but for where it stands -/
def SameO : Option X → Option X → Prop
  | none, none => True
  | some a, some b => Same a b
  | _, _ => False
def SameH (a b : Hd) : Prop := a.k = b.k ∧ a.name = b.name ∧ SameO a.cnt b.cnt ∧ a.rule = b.rule
inductive SameI : Its → Its → Prop where
  | nil : SameI .nil .nil
  | cons {h h' : Hd} {l l' : Its} : SameH h h' → SameI l l' → SameI (.cons h l) (.cons h' l')
  | when {a a' : Nat} {c c' : X} {b b' l l' : Its} : Same c c' → SameI b b' → SameI l l' → SameI (.when a c b l) (.when a' c' b' l')
def SameT (a b : Ty) : Prop := a.name = b.name ∧ SameI a.items b.items
inductive SameTs : List Ty → List Ty → Prop where
  | nil : SameTs [] []
  | cons {a b : Ty} {l m : List Ty} : SameT a b → SameTs l m → SameTs (a :: l) (b :: m)
/-- as text -/
def pad (d : Nat) : Wd := List.replicate (2 * d) 32
def prX (x : X) : Wd := pr Num.dec x
def ptX (x : X) : List Wd := pt Num.dec x
def kndW : Knd → Wd
  | .scalar w => w
  | .bytes => wBytes
  | .struct t => t
def prTail (c : Option X) (r : Rl) : Wd := match c with
  | some c => 91 :: (prX c ++ [93])
  | none => match r with
    | .none => []
    | .size f => [32, 61, 32] ++ wSize ++ 32 :: f
    | .count f => [32, 61, 32] ++ wCount ++ 32 :: f
    | .check f l => if l = f then [32, 61, 32] ++ wCheck ++ 32 :: f else [32, 61, 32] ++ wCheck ++ 32 :: (f ++ 32 :: l)
def ptTail (c : Option X) (r : Rl) : List Wd := match c with
  | some c => [91] :: (ptX c ++ [[93]])
  | none => match r with
    | .none => []
    | .size f => [[61], wSize, f]
    | .count f => [[61], wCount, f]
    | .check f l => if l = f then [[61], wCheck, f] else [[61], wCheck, f, l]
def prH (d : Nat) (h : Hd) : Wd := pad d ++ kndW h.k ++ 32 :: (h.name ++ (prTail h.cnt h.rule ++ [59, 10]))
def ptH (h : Hd) : List Wd := kndW h.k :: h.name :: (ptTail h.cnt h.rule ++ [[59]])
def prI (d : Nat) : Its → Wd
  | .nil => []
  | .cons h l => prH d h ++ prI d l
  | .when _ c b l => pad d ++ (wWhen ++ 32 :: (prX c ++ [32, 123, 10])) ++ (prI (d + 1) b ++ (pad d ++ ([125, 10] ++ prI d l)))
def ptI : Its → List Wd
  | .nil => []
  | .cons h l => ptH h ++ ptI l
  | .when _ c b l => wWhen :: (ptX c ++ [123] :: (ptI b ++ [125] :: ptI l))
def prT (t : Ty) : Wd := wStruct ++ 32 :: (t.name ++ [32, 123, 10]) ++ (prI 1 t.items ++ [125, 10])
def ptT (t : Ty) : List Wd := wStruct :: t.name :: [123] :: (ptI t.items ++ [[125]])
def prTs (l : List Ty) : Wd := l.flatMap prT
def ptTs (l : List Ty) : List Wd := l.flatMap ptT
/-- what may be written -/
def WordOk (w : Wd) : Prop := w ≠ [] ∧ ∀ c ∈ w, Lex.word c = true
def NameOk (w : Wd) : Prop := WordOk w ∧ nameB w = true
def FineX (x : X) : Prop := Fine Num.numOf Num.dec x ∧ deepAt Num.dec x ≤ 8
def FineK : Knd → Prop
  | .scalar w => (kindOf w).isSome = true
  | .bytes => True
  | .struct t => NameOk t
def FineR : Rl → Prop
  | .none => True
  | .size f => NameOk f
  | .count f => NameOk f
  | .check f l => NameOk f ∧ NameOk l
def FineH (h : Hd) : Prop := FineK h.k ∧ NameOk h.name ∧ (∀ c, h.cnt = some c → FineX c ∧ h.rule = .none) ∧ FineR h.rule ∧ (h.k = .bytes → h.cnt ≠ none) ∧ (h.rule ≠ .none → ∃ w, h.k = .scalar w)
def FineI : Its → Prop
  | .nil => True
  | .cons h l => FineH h ∧ FineI l
  | .when _ c b l => FineX c ∧ FineI b ∧ FineI l
def FineT (t : Ty) : Prop := NameOk t.name ∧ FineI t.items
theorem num_word : ∀ p ∈ numWords, WordOk p.1 ∧ lettered p.1 = true := by
  unfold WordOk
  decide
theorem kind_word {w : Wd} (h : (kindOf w).isSome = true) : WordOk w ∧ lettered w = true := by
  unfold kindOf at h
  rw [Option.isSome_map] at h
  obtain ⟨p, hp⟩ := Option.isSome_iff_exists.1 h
  have h1 := List.mem_of_find?_eq_some hp
  have h2 := List.find?_some hp
  rw [beq_iff_eq] at h2
  rw [← h2]
  exact num_word p h1
theorem kept_words : ∀ w ∈ keptWords, WordOk w ∧ lettered w = true ∧ keptB w = true := by
  unfold WordOk
  decide
theorem kndW_ok {k : Knd} (h : FineK k) : WordOk (kndW k) := by
  cases k with
  | scalar w => exact (kind_word h).1
  | bytes => exact (kept_words wBytes (by decide)).1
  | struct t => exact h.1
/-- WHAT IS WRITTEN IS CUT into its tokens, whatever mark or blank comes behind -/
def SepM (r : Wd) : Prop := r = [] ∨ ∃ c t, r = c :: t ∧ Lex.word c = false
theorem texts_wd {x r : Wd} {i : Nat} (hx : WordOk x) (hr : SepM r) : texts (x ++ r) i = (texts r 0).map (x :: ·) := by
  refine texts_word x r i hx.1 hx.2 ?_
  rcases hr with h | h
  · exact .inl (.inl h)
  · exact .inr h
theorem texts_prM : ∀ (x : X), Fine Num.numOf Num.dec x → ∀ (r : Wd) (i : Nat), SepM r → texts (prX x ++ r) i = (texts r 0).map (ptX x ++ ·)
  | .num _ n, h, r, i, hr => by
    unfold prX ptX pr pt
    exact texts_wd ⟨h.1, fun c hc => digit_word c (h.2.1 c hc)⟩ hr
  | .name _ s, h, r, i, hr => by
    unfold prX ptX pr pt
    exact texts_wd ⟨h.1, h.2.2.1⟩ hr
  | .bin _ op l r', h, r, i, hr => by
    obtain ⟨h1, h2, h3⟩ := h
    have part : ∀ (x : X) (b : Bool), Fine Num.numOf Num.dec x → (∀ (r : List UInt8) (i : Nat), SepM r → texts (prX x ++ r) i = (texts r 0).map (ptX x ++ ·)) → ∀ (r : List UInt8) (i : Nat), SepM r →
        texts ((if b then 40 :: (prX x ++ [41]) else prX x) ++ r) i = (texts r 0).map ((if b then [40] :: (ptX x ++ [[41]]) else ptX x) ++ ·) := by
      intro x b hx ih r i hr
      cases b with
      | false => exact ih r i hr
      | true =>
        simp only [if_true]
        rw [List.cons_append, texts_open, List.append_assoc, List.singleton_append, ih _ _ (.inr ⟨41, _, rfl, by decide⟩), texts_shut, Option.map_map, Option.map_map]
        congr 1
        funext z
        simp
    have pl := part l (decide (hold l < opLevel op)) h2 (texts_prM l h2)
    have pr' := part r' (decide (hold r' < opLevel op + 1)) h3 (texts_prM r' h3)
    simp only [decide_eq_true_eq] at pl pr'
    unfold prX ptX at *
    unfold pr pt
    rw [List.append_assoc, List.cons_append, pl _ _ (.inr ⟨32, _, rfl, by decide⟩), texts_blank, List.append_assoc, List.cons_append, texts_op _ _ _ h1, pr' _ _ hr, Option.map_map, Option.map_map]
    congr 1
    funext z
    simp
theorem texts_nl (l : Wd) (i : Nat) : texts (10 :: l) i = texts l 0 := by
  unfold texts
  rw [Lex.lexA_blank 10 l i (.inr (.inl rfl))]
  exact texts_shift l _ _
theorem texts_pad : ∀ (n : Nat) (l : Wd) (i : Nat), texts (List.replicate n 32 ++ l) i = texts l 0
  | 0, l, i => by rw [List.replicate_zero, List.nil_append]; exact texts_shift l _ _
  | n + 1, l, i => by rw [List.replicate_succ, List.cons_append, texts_blank]; exact texts_pad n l 0
theorem texts_ob (r : Wd) (i : Nat) : texts (91 :: r) i = (texts r 0).map ([91] :: ·) := mark_of [91] 91 [] r i rfl (by decide) (by decide) (by decide) rfl
theorem texts_cb (r : Wd) (i : Nat) : texts (93 :: r) i = (texts r 0).map ([93] :: ·) := mark_of [93] 93 [] r i rfl (by decide) (by decide) (by decide) rfl
theorem texts_oc (r : Wd) (i : Nat) : texts (123 :: r) i = (texts r 0).map ([123] :: ·) := mark_of [123] 123 [] r i rfl (by decide) (by decide) (by decide) rfl
theorem texts_cc (r : Wd) (i : Nat) : texts (125 :: r) i = (texts r 0).map ([125] :: ·) := mark_of [125] 125 [] r i rfl (by decide) (by decide) (by decide) rfl
theorem texts_semi (r : Wd) (i : Nat) : texts (59 :: r) i = (texts r 0).map ([59] :: ·) := mark_of [59] 59 [] r i rfl (by decide) (by decide) (by decide) rfl
theorem texts_eq (r : Wd) (i : Nat) : texts (61 :: 32 :: r) i = (texts r 0).map ([61] :: ·) := by
  have := mark_of [61] 61 [] (32 :: r) i rfl (by decide) (by decide) (by decide) (Lex.mark_again [61] (by decide) 32 r (.inl rfl))
  rw [show (61 :: 32 :: r : Wd) = [61] ++ 32 :: r from rfl, this, texts_blank]
end Tm
end Go.Proofs.YtlomecfhobehnaaGreatDoor
end
