/- Append to a slice of the call's own inside a region that draws its order. No program in sight. -/
import Derived.Test.YtnmbakibiaedhaaDoorOwn
import Derived.Deep.RegionHeld3
import Derived.Deep.AppendLies
namespace Go.Proofs.YtnmbakibiaedhaaDoor
open Go.RowKit
set_option linter.unusedVariables false
set_option linter.unusedSimpArgs false
theorem step_pushN {P : Program} (w : World) {ops : Array Oper} {o : Oper} {act : Act} {K : Act → World → Prop} {Q : Exit → Act → World → Prop} {E : Prop} (hgd : o.guard = none) (s x : Operand) (t : TypeId)
    (ho : o.op = .call { callee := .builtin .append, args := #[s, x], argTypes := #[t, t] })
    (B : Nat) (e : TypeId) (z : Value) (size bytes : Nat) (ht : P.underlying t = some (.slice e)) (hinf : (P.info? e).map (fun i => (i.zero, i.size, i.bytes)) = some (some z, size, bytes)) (hzs : z.cells.size = size) (hsz : 0 < size)
    (a : Option Addr) (n cap : Nat) (xs : List Value) (hs : act.eval s = .slice a n cap) (hown : Owns w B e size a n cap xs)
    (g m c : Nat) (hm : 0 < m) (news : List Value) (hl : news.length = m * size) (h1 : ∀ u ∈ news, u.oneCell' = true) (hx : act.eval x = .slice (some ⟨g, 0, none⟩) m c) (hrow : RowAt w g 0 e news)
    (h63 : n + m ≤ maxLen) (hbytes : (n + m) * bytes ≤ 140737488355328) (hbase : B ≤ w.heap.size)
    (h : ∀ a' cap' w', Owns w' B e size a' (n + m) cap' (xs ++ news) → w.grownBy w' (blk a) → (∀ x, a' = some x → a = some x ∨ w.heap.size ≤ x.block) → (∃ g, a' = some ⟨g, 0, none⟩) → K (act.put o.dst (.slice a' (n + m) cap')) w') :
    if Region.wanted o (yielded ops act.tmps) = true then Oper.wp P o act w K Q else E := by
  obtain ⟨i, hi, hz, hsize, hby⟩ := info_parts hinf
  have hnews : ∀ j u, news[j]? = some u → w.cell? ((⟨g, 0, none⟩ : Addr).add j) = some u := by
    intro j u hj
    have hadd : (⟨g, 0, none⟩ : Addr).add j = ⟨g, j, none⟩ := by unfold Addr.add; split <;> simp_all
    rw [hadd]
    have hlt : j < news.length := by
      rcases Nat.lt_or_ge j news.length with h | h
      · exact h
      · rw [List.getElem?_eq_none h] at hj; cases hj
    rw [hrow.cell0 j hlt, ← hj, List.getElem?_eq_getElem hlt]
  refine step_append_lies w hgd s x t ho B e i z size bytes ht hi hz hsize hby hzs hsz (.slice a n cap) n xs hs hown ⟨g, 0, none⟩ m c news hx hl hnews h1 hm h63 hbytes hbase _ rfl ?_
  intro gg cap' w' hown' hgrow hat hlt
  refine h (some ⟨gg, 0, none⟩) cap' w' hown' ?_ ?_ ⟨gg, rfl⟩
  · rw [ownBlock_eq] at hgrow; exact hgrow
  · intro y hy
    cases hy
    rcases hat with hloc | hloc
    · left
      rw [ownBlock_eq] at hloc
      cases ha : a with
      | none => rw [ha] at hloc; simp [blk] at hloc
      | some y =>
        rw [ha] at hloc
        subst ha
        have hr := Owns.row hown
        simp [blk] at hloc
        rw [hr.1, hloc]
    · right
      show w.heap.size ≤ gg
      omega
/-- a guard for an arm: the next operation is an append of two slices -/
theorem at_app {P : Program} {ops : Array Oper} {act : Act} {w : World} {K : Act → World → Prop} {Q : Exit → Act → World → Prop} {E : Prop} {d : Option Nat} {s x : Operand} {t ty : TypeId} {pos : String} {af : Array Edge} {gd : Option (Tmp × Bool)}
    (h : if Region.wanted ⟨d, .call { callee := .builtin .append, args := #[s, x], argTypes := #[t, t] }, ty, pos, af, gd⟩ (yielded ops act.tmps) = true then Oper.wp P ⟨d, .call { callee := .builtin .append, args := #[s, x], argTypes := #[t, t] }, ty, pos, af, gd⟩ act w K Q else E) :
    if Region.wanted ⟨d, .call { callee := .builtin .append, args := #[s, x], argTypes := #[t, t] }, ty, pos, af, gd⟩ (yielded ops act.tmps) = true then Oper.wp P ⟨d, .call { callee := .builtin .append, args := #[s, x], argTypes := #[t, t] }, ty, pos, af, gd⟩ act w K Q else E := h
end Go.Proofs.YtnmbakibiaedhaaDoor
