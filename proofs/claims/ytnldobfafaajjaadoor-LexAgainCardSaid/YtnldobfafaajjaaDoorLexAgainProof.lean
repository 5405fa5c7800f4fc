/- The law LexAgain: called with any arguments it returns true, and each argument reads afterwards as it read before. No condition. -/
import Derived.Test.YtnldobfafaajjaaDoorCards
import Derived.Test.YtnldobfafaajjaaDoorTie
import Derived.Test.YtnldobfafaajjaaDoorLexG
import Derived.ChangeSame
import Derived.ChangeVars
import Derived.JoinedOf
import Derived.RowKitTokens
import Derived.LaidLaws
import Derived.LaidHandle
import Derived.Stop.Joined
import Derived.SevenTiedAt
import Derived.ProofKit
import Derived.OpenShut
import Derived.ShutString
import Derived.SizedLaws
import Derived.ChangeOld
import Derived.SliceStrings
namespace Go.Proofs.YtnldobfafaajjaaDoor
open Go.ChangeShapes Go.WideShapes Go.ChangeAt Go.RowKit
open Go.ChangeMaps (open_string shut_string)
namespace LexAgainProof
theorem own : ownKnob Tryd.prog.godebug = none := by kernel_rfl
theorem laidOut : laidOutB Tryd.prog = true := by kernel_rfl
theorem gm : Tryd.prog.globalNamed "escritoire/lex.marks" = some 1 := by kernel_rfl
theorem gt : (Tryd.prog.globals[1]?).map (·.type) = some 99 := by kernel_rfl
theorem cs1 : Tryd.prog.cellsOf 9 = 1 := by kernel_rfl
theorem cs18 : Tryd.prog.cellsOf 99 = 18 := by kernel_rfl
theorem mapM_get {α β : Type} {f : α → Option β} : ∀ {l : List α} {r : List β}, l.mapM f = some r → ∀ (i : Nat) (h : i < l.length), ∃ y, r[i]? = some y ∧ f l[i] = some y := by
  intro l
  induction l with
  | nil => intro r _ i h; cases h
  | cons x xs ih =>
    intro r h i hi
    simp only [List.mapM_cons, Option.bind_eq_bind, Option.bind_eq_some_iff, Option.pure_def, Option.some.injEq] at h
    obtain ⟨y, h1, ys, h2, rfl⟩ := h
    cases i with
    | zero => exact ⟨y, rfl, h1⟩
    | succ i => exact ih h2 i (by simpa using hi)
set_option maxRecDepth 100000 in
theorem str_of_trod {H : Type} {enc : TypeId × Value → H} {W : World} {base : Nat} {sp : Nat → Bool} {held : Bool} {n : Nat} {c : Value} {bs : List UInt8} {ps : List MemPlace}
    (h : DataW.trod enc Tryd.prog W base sp held n 9 [c] = some (.lit (.string bs), ps)) : c = .string (bstr bs) := by
  cases n with
  | zero => simp [DataW.trod] at h
  | succ n =>
    rw [DataW.trod_step] at h
    unfold DataW.trodStep at h
    rw [Tryd.underlying9] at h
    cases c with
    | string s =>
      simp only at h
      split at h
      · simp only [Option.some.injEq, Prod.mk.injEq, DataW.lit.injEq, Lit.string.injEq] at h
        rw [← h.1]
        exact congrArg _ (eq_bstr s)
      · cases h
    | _ => cases h
set_option maxRecDepth 100000 in
theorem marks_of_laid {W : World} (h : laidMetH Tryd.prog Rows.lexAgainRow.laid W) : MarksAt W := by
  have h' : laidMet Tryd.prog [("escritoire/lex.marks", Rows.laid_escritoire_lex_marks)] W := (laidMetH_iff.1 h).1
  obtain ⟨ps, ⟨g, t, cs, fuel, p, q, hg, ht, hvar, hd, _, _⟩, _⟩ := h'
  obtain rfl := Option.some.inj (gm.symm.trans hg)
  obtain rfl := Option.some.inj (gt.symm.trans ht)
  intro j hj
  obtain ⟨l⟩ := cs
  rw [World.var?_cell hg hvar j]
  cases fuel with
  | zero => simp [DataW.trod] at hd
  | succ fuel =>
    rw [DataW.trod_step] at hd
    unfold DataW.trodStep at hd
    rw [Tryd.underlying99] at hd
    simp only [cs1, cs18] at hd
    split at hd
    · rename_i hl
      simp only [Option.map_eq_some_iff] at hd
      obtain ⟨xs, hm, hx⟩ := hd
      obtain ⟨y, hy, hf⟩ := mapM_get hm j (by simpa using hj)
      simp only [Prod.mk.injEq] at hx
      have hx1 := hx.1
      simp only [Rows.laid_escritoire_lex_marks, DataW.agg.injEq] at hx1
      have hl2 : xs.map (·.1) = Lex.marks.map fun m => (DataW.lit (.string m) : DataW Unit) := hx1
      have hy1 : y.1 = .lit (.string (Lex.marks.getD j [])) := by
        have e1 : (xs.map (·.1))[j]? = some y.1 := by rw [List.getElem?_map, hy]; rfl
        rw [hl2, List.getElem?_map] at e1
        have e2 : Lex.marks[j]? = some (Lex.marks.getD j []) := by
          rw [List.getD_eq_getElem?_getD]
          cases e : Lex.marks[j]? with
          | none =>
            rw [List.getElem?_eq_none_iff] at e
            have : Lex.marks.length = 18 := rfl
            omega
          | some z => rfl
        rw [e2] at e1
        exact (Option.some.inj e1).symm
      simp only [Nat.mul_one, List.getElem_range] at hf
      have hjl : j < l.length := by
        have h0 : l.length = 18 := hl
        omega
      have e3 : (l.drop j).take 1 = [l[j]] := by
        rw [List.drop_eq_getElem_cons hjl]; rfl
      rw [e3] at hf
      obtain ⟨y1, y2⟩ := y
      simp only at hy1
      subst hy1
      have e4 := str_of_trod hf
      simp only [List.getElem?_toArray, List.getElem?_eq_getElem hjl, e4]
    · cases hd
noncomputable def laidWorld (os : Os) : World :=
  let w0 := World.holding Tryd.prog os ⟨#[], #[], []⟩
  { w0 with heap := w0.heap.modify 1 fun
      | .cells _ t frozen => .cells marksV t frozen
      | o => o }
theorem laidWorld_met (os : Os) (args : Array Value) : laidMetH Tryd.prog Rows.lexAgainRow.laid ((laidWorld os).forCall (fun _ _ => 0) ⟨#[], args, []⟩).memory :=
  laidMetH_of_parts (laidMet_of_run' 8 (by kernel_rfl) (by kernel_rfl)) (by kernel_rfl)
set_option maxRecDepth 100000 in
theorem lifted (os : Os) (started : os.Started) (H : Type) (enc : TypeId × Value → H) :
    ReturnsInHanded {} Tryd.checked os 3 .any (fun w args => (Rows.lexAgainSpec.pre enc Tryd.prog Tryd.f3 [] false w args ∧ laidMetH Tryd.prog Rows.lexAgainRow.laid w) ∧ sizedMet enc Tryd.prog Tryd.f3 (OpenSpec.ofChange Rows.lexAgainSpec) false w args)
      (Rows.lexAgainSpec.post enc Tryd.prog Tryd.f3 false true false false) := by
  refine returnsInHanded_of_change_and (C := Tryd.checked) (X := fun w _ => laidMetH Tryd.prog Rows.lexAgainRow.laid w) (fun _ _ _ hh h => h.of_heap hh) own started (by kernel_rfl) Tryd.func3
    (ChangeSpec.witness_at (enc := enc) (C := Tryd.checked) (os := os) (X := fun w _ => laidMetH Tryd.prog Rows.lexAgainRow.laid w) false (laidWorld os) #[.string ByteArray.empty, .int .i64 0] 8 rfl (by kernel_rfl) (by kernel_rfl) (by kernel_rfl) (by kernel_rfl) (by kernel_rfl) (laidWorld_met os _)) ?_
  intro W base args ds gs before hval0 hW hcnd hsz0 hL _
  have hval : ∀ (j : Nat) t v, Tryd.f3.params[j]? = some t → args[j]? = some v → Value.okWide Tryd.prog W .any base t v := hval0
  have hsz : (DataW.weightsEach Tryd.prog (Tryd.f3.params.toList ++ Rows.lexAgainSpec.plain.varTypes Tryd.prog) (ds ++ gs)).all (· ≤ reachBytes) = true := hsz0
  have hW' := hW
  obtain ⟨p, q, hA0, hV, rfl, hfz, hnd⟩ := hW
  have hA : DataW.TrodAll enc Tryd.prog W 0 (fun _ => true) true Tryd.f3.params.toList args.toList ds p := hA0
  rw [Tryd.params3] at hA hval hsz
  obtain ⟨v0, vs0, d0, ds0, p0, q0, hargs, rfl, rfl, h0, r0⟩ := trodAll_cons hA
  obtain ⟨v1, vs1, d1, ds1, p1, q1, rfl, rfl, rfl, h1, r1⟩ := trodAll_cons r0
  obtain ⟨rfl, rfl, rfl⟩ := trodAll_nil r1
  obtain rfl : args = #[v0, v1] := by cases args; simp_all
  have hg := marks_of_laid hL
  obtain ⟨rfl, rfl⟩ := trodVars_none hV
  obtain ⟨a0, rfl, rfl, rfl, w0⟩ := open_string Tryd.underlying9 (hval 0 9 v0 rfl rfl) h0
  have s0 : a0.size ≤ 140737488351232 := by have := sized_string hsz (j := 0) rfl rfl; rw [data_length] at this; simpa [reachBytes] using this
  obtain ⟨a1, rfl, rfl, rfl, w1⟩ := open_int Tryd.underlying3 (hval 1 3 v1 rfl rfl) h1
  have b1 := bounds_i64 w1
  clear hA0 hval0
  simp only [List.append_nil] at hW'
  refine (LexAgain_walk W a0 a1 s0 b1.1 b1.2 hg).mono fun e W' ⟨he, bel⟩ => ?_
  subst he
  exact ⟨_, rfl, _, _, _, [], _, [], hW', trodAll_mk1 (shut_bool Tryd.underlying4 _), (trodAll_cons_mk (shut_string Tryd.underlying9 w0) (trodAll_cons_mk (shut_int Tryd.underlying3 w1) trodAll_mk0)), rfl, bel.frame _, fun h => by cases h⟩
theorem holds_ : Rows.LexAgainSaid :=
  OpenClaim.holds_of_wide 3 Tryd.f3 rfl rfl rfl rfl rfl rfl rfl ⟨rfl, rfl, rfl, rfl, rfl⟩ rfl rfl rfl rfl rfl (by kernel_rfl) Tryd.func3 (by kernel_rfl)
    (of_decide_eq_true (by kernel_rfl)) (by unfold Func.isWrapper; first | (rw [if_pos (by decide +kernel)]; kernel_rfl) | (rw [if_neg (by decide +kernel)]; exact ⟨rfl, rfl⟩))
    (fun os started H enc _ => lifted os started H enc)
theorem proved : Rows.LexAgainCardSaid :=
  Claim7.holds_tied_plain_at .later [] [.data] true Rows.lexAgainCard.stood.harness true
    holds_ (fun _ h => by cases h) (by kernel_rfl) (fun _ h => by cases h) lexAgain_row_tie rfl ⟨rfl, rfl⟩ (by kernel_rfl) rfl
    (fun f fn hf hfn => by
      obtain rfl : f = 3 := Option.some.inj ((show Tryd.prog.funcNamed "escritoire/escritoirekeep.LexAgain" = some 3 by kernel_rfl).symm.trans hf) |>.symm
      obtain rfl : fn = Tryd.f3 := (Option.some.inj (Tryd.func3.symm.trans hfn)).symm
      exact ⟨by kernel_rfl, fun j t ht => by
        rw [Tryd.params3] at ht
        have h3 : t = 3 ∨ t = 9 := by
          rcases j with _ | _ | j
          · simp at ht; subst ht; simp
          · simp at ht; subst ht; simp
          · simp at ht
        rcases h3 with rfl | rfl
        · exact (show Tryd.prog.wantsStandIn 3 = false by kernel_rfl)
        · exact (show Tryd.prog.wantsStandIn 9 = false by kernel_rfl)⟩)
    (by kernel_rfl)
#print axioms proved
end LexAgainProof
end Go.Proofs.YtnldobfafaajjaaDoor
