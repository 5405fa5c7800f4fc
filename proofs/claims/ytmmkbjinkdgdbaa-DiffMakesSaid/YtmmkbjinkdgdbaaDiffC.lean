/- Contracts of package diff: add, Edits. -/
import Derived.Test.YtmmkbjinkdgdbaaDiffB
import Derived.Test.YtmmkbjinkdgdbaaOwnStep
namespace Go.Proofs.Ytmmkbjinkdgdbaa
open Go.RowKit
set_option linter.unusedVariables false
set_option linter.unusedSimpArgs false
namespace Diff
/-- an edit -/
structure Ed where
  what : Nat
  n : Nat
  text : List UInt8
/-- an edit's cells -/
def edCells (e : Ed) : List Value := [.int .i64 (e.what : Nat), .int .i64 (e.n : Nat), .string (bstr e.text)]
def edsCells (l : List Ed) : List Value := l.flatMap edCells
theorem edsCells_length (l : List Ed) : (edsCells l).length = l.length * 3 := by
  induction l with
  | nil => rfl
  | cons e l ih => simp only [edsCells, List.flatMap_cons, List.length_append, List.length_cons] at ih ⊢; rw [ih]; simp [edCells]; omega
theorem edsCells_append (l m : List Ed) : edsCells (l ++ m) = edsCells l ++ edsCells m := by simp [edsCells]
/-- an edit behind others -/
def addE (l : List Ed) (e : Ed) : List Ed :=
  match l.getLast? with
  | some f => if f.what = e.what then l.dropLast ++ [⟨f.what, f.n + e.n, f.text ++ e.text⟩] else l ++ [e]
  | none => l ++ [e]
theorem addE_nil (e : Ed) : addE [] e = [e] := rfl
theorem addE_same (l : List Ed) (f e : Ed) (h : f.what = e.what) : addE (l ++ [f]) e = l ++ [⟨f.what, f.n + e.n, f.text ++ e.text⟩] := by
  simp [addE, h]
theorem addE_other (l : List Ed) (f e : Ed) (h : f.what ≠ e.what) : addE (l ++ [f]) e = l ++ [f] ++ [e] := by
  simp [addE, h]
theorem snoc_cases {α : Type} (l : List α) : l = [] ∨ ∃ m x, l = m ++ [x] := by
  rcases List.eq_nil_or_concat l with h | ⟨m, x, h⟩
  · exact .inl h
  · exact .inr ⟨m, x, by rw [h, List.concat_eq_append]⟩
end Diff
theorem infoEd : (Try.prog.info? 99).map (fun i => (i.zero, i.size, i.bytes)) = some (some (.agg #[.int .i64 0, .int .i64 0, .string ByteArray.empty]), 3, 32) := by kernel_rfl
set_option maxHeartbeats 1000000 in
set_option maxRecDepth 100000 in
theorem add_any (B : Nat) (a : Option Addr) (n cap : Nat) (l : List Diff.Ed) (e : Diff.Ed) (w : World) (hB : B ≤ w.heap.size) (hl : l.length = n) (hn : n ≤ 100000) (hw : e.what ≤ 1000) (hen : e.n ≤ 100000) (het : e.text.length ≤ 100000)
    (hs : ∀ f ∈ l, f.n ≤ 100000 ∧ f.text.length ≤ 100000) (ho : Owns w B 99 3 a n cap (Diff.edsCells l)) :
    Calls Try.prog 86 #[.slice a n cap, .int .i64 (e.what : Nat), .int .i64 (e.n : Nat), .string (bstr e.text)] w fun r w' => ∃ a' n' cap', r = .returned (.slice a' n' cap') ∧ n' = (Diff.addE l e).length ∧ Owns w' B 99 3 a' n' cap' (Diff.edsCells (Diff.addE l e)) ∧ w.grownBy w' (blk a) ∧ (∀ x, a' = some x → a = some x ∨ w.heap.size ≤ x.block) := by
  have hml2 : n + 1 ≤ maxLen := by unfold maxLen; omega
  have hby : (n + 1) * 32 ≤ 140737488355328 := by omega
  rcases Diff.snoc_cases l with rfl | ⟨m, f, rfl⟩
  · obtain rfl : n = 0 := by simpa using hl.symm
    rw [Diff.addE_nil]
    go_enter Try.func86, Try.ntmps86
    go_wp2_with (with_reducible refine wpList_push _ rfl _ _ 93 rfl B 99 (.agg #[.int .i64 0, .int .i64 0, .string ByteArray.empty]) 3 32 Try.underlying93 infoEd rfl (by decide) a 0 cap _ rfl ho [.int .i64 (e.what : Nat), .int .i64 (e.n : Nat), .string (bstr e.text)] rfl (by simp [Value.oneCell']) rfl hml2 hby hB ?_; intro a' cap' w' hown' hgrow hloc hsz' hex)
    go_ret
    refine ⟨a', 1, cap', rfl, rfl, hown', hgrow, fun x hx => ?_⟩
    rcases hloc x hx with h | h
    · exact .inl h
    · exact .inr (by omega)
  · rw [List.length_append, List.length_singleton] at hl
    obtain ⟨k, rfl⟩ : ∃ k, n = k + 1 := ⟨n - 1, by omega⟩
    have hk : m.length = k := by omega
    have hf := hs f (by simp)
    cases a with
    | none => have := ho.of_none; omega
    | some x =>
      obtain ⟨h1, h2, h3, h4, h5⟩ := ho.row
      rw [h1] at ho ⊢
      generalize x.block = g at *
      rw [Diff.edsCells_append] at h5
      have hml := Diff.edsCells_length m
      rw [hk] at hml
      have hfl : Diff.edsCells [f] = [.int .i64 (f.what : Nat), .int .i64 (f.n : Nat), .string (bstr f.text)] := rfl
      rw [hfl] at h5
      have hlen : (Diff.edsCells m ++ [Value.int .i64 (f.what : Nat), .int .i64 (f.n : Nat), .string (bstr f.text)]).length = k * 3 + 3 := by rw [List.length_append, hml]; rfl
      have c0 := h5.cell0 (k * 3) (by omega)
      have c1 := h5.cell0 (k * 3 + 1) (by omega)
      have c2 := h5.cell0 (k * 3 + 2) (by omega)
      rw [List.getElem_append_right (by omega)] at c0 c1 c2
      simp only [hml, Nat.sub_self, Nat.add_sub_cancel_left, List.getElem_cons_zero, List.getElem_cons_succ] at c0 c1 c2
      have f0 := h5.frozen0 (k * 3) (by omega)
      have f1 := h5.frozen0 (k * 3 + 1) (by omega)
      have f2 := h5.frozen0 (k * 3 + 2) (by omega)
      have hki : IntKind.i64.wrap ((k : Int) + 1 - 1) = (k : Int) := by rw [IntWalk.i64_in _ ⟨by omega, by omega⟩]; omega
      have hkc : ((k + 1 : Nat) : Int) = (k : Int) + 1 := by simp
      have hk1 : (k : Int) < (k : Int) + 1 := by omega
      by_cases hwh : f.what = e.what
      · have hw1 : ((f.what : Int) == (e.what : Int)) = true := by rw [beq_iff_eq]; omega
        have hsum : IntKind.i64.wrap ((f.n : Int) + (e.n : Int)) = (f.n : Int) + (e.n : Int) := IntWalk.i64_in _ ⟨by omega, by omega⟩
        rw [Diff.addE_same m f e hwh]
        go_enter Try.func86, Try.ntmps86
        go_wp2_with fail
        go_ret
        have hset := (ho.set (k * 3 + 1) (by rw [Diff.edsCells_append, hfl, hlen]; omega) (.int .i64 ((f.n : Int) + (e.n : Int)))).set (k * 3 + 2) (by rw [List.length_set, Diff.edsCells_append, hfl, hlen]; omega) (.string (bstr (f.text ++ e.text)))
        rw [Diff.edsCells_append, hfl, List.set_append_right _ _ (by omega), List.set_append_right _ _ (by omega), hml, Nat.add_sub_cancel_left, Nat.add_sub_cancel_left] at hset
        have hrf : w.grownBy w (some g) := ⟨rfl, rfl, rfl, Nat.le_refl _, fun _ _ _ => rfl⟩
        have hgr := grown_set (p := ⟨g, k * 3 + 2, none⟩) (grown_set (p := ⟨g, k * 3 + 1, none⟩) hrf rfl (.int .i64 ((f.n : Int) + (e.n : Int)))) rfl (.string (bstr (f.text ++ e.text)))
        refine ⟨_, _, _, rfl, by simp [hk], ?_, hgr, fun x hx => .inl hx⟩
        rw [Diff.edsCells_append]
        exact hset
      · have hw1 : ((f.what : Int) == (e.what : Int)) = false := by rw [beq_eq_false_iff_ne]; omega
        rw [Diff.addE_other m f e hwh]
        clear c1 c2 f0 f1 f2 h5
        go_enter Try.func86, Try.ntmps86
        go_wp2_with (with_reducible refine wpList_push _ rfl _ _ 93 rfl B 99 (.agg #[.int .i64 0, .int .i64 0, .string ByteArray.empty]) 3 32 Try.underlying93 infoEd rfl (by decide) (some ⟨g, 0, none⟩) (k + 1) cap _ rfl ho [.int .i64 (e.what : Nat), .int .i64 (e.n : Nat), .string (bstr e.text)] rfl (by simp [Value.oneCell']) rfl hml2 hby hB ?_; intro a' cap' w' hown' hgrow hloc hsz' hex)
        go_ret
        refine ⟨a', k + 1 + 1, cap', rfl, by simp [hk], ?_, hgrow, fun x hx => ?_⟩
        · rw [Diff.edsCells_append]; exact hown'
        · rcases hloc x hx with h | h
          · exact .inl h
          · exact .inr (by omega)
end Go.Proofs.Ytmmkbjinkdgdbaa
