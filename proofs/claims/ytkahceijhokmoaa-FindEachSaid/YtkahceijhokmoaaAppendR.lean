/- append(s, t...) where s is of the call's own and t is read; a shorter slice of the call's own. No program in sight. -/
import Derived.Test.YtkahceijhokmoaaOwn
namespace Go.Proofs.Ytkahceijhokmoaa
open Go.RowKit
set_option linter.unusedVariables false
set_option linter.unusedSimpArgs false
theorem Owns.cutTo {w : World} {B : Nat} {e : TypeId} {size : Nat} {a : Option Addr} {n cap : Nat} {xs : List Value} (h : Owns w B e size a n cap xs) (m : Nat) (hm : m ≤ n) : Owns w B e size a m cap (xs.take (m * size)) := by
  have hl := h.len
  cases a with
  | none =>
    obtain ⟨h1, h2, h3⟩ := h.of_none
    subst h1 h2 h3
    obtain rfl : m = 0 := by omega
    simpa using Owns.nil w B e size
  | some x =>
    rcases h.2 with ⟨h1, _⟩ | ⟨g, cp, cur, h1, h2, h3, h4, h5, h6, h7⟩
    · cases h1
    · cases h1
      refine ⟨by rw [List.length_take, hl]; exact Nat.min_eq_left (Nat.mul_le_mul_right _ hm), .inr ⟨g, cap, cur, rfl, h2, h3, by omega, h5, h6, ?_⟩⟩
      rw [← h7, List.take_take, Nat.min_eq_left (Nat.mul_le_mul_right _ hm)]
/-- a slice that is read, cell by cell -/
def ReadsC (w : World) (b : Option Addr) (m d : Nat) (size : Nat) (news : List Value) : Prop :=
  news.length = m * size ∧ (∀ u ∈ news, u.oneCell' = true) ∧ (b = none → m = 0 ∧ d = 0) ∧ ∀ y, b = some y → ∀ j u, news[j]? = some u → w.cell? (y.add j) = some u
theorem wpList_appendR {P : Program} (w : World) {ops : Array Oper} {rest : List Oper} {o : Oper} {act : Act} {Q : Exit → Act → World → Prop} (hgd : o.guard = none) (s x : Operand) (t : TypeId)
    (ho : o.op = .call { callee := .builtin .append, args := #[s, x], argTypes := #[t, t] })
    (B : Nat) (e : TypeId) (z : Value) (size bytes : Nat) (ht : P.underlying t = some (.slice e)) (hinf : (P.info? e).map (fun i => (i.zero, i.size, i.bytes)) = some (some z, size, bytes)) (hzs : z.cells.size = size) (hsz : 0 < size)
    (a : Option Addr) (n cap : Nat) (xs : List Value) (hs : act.eval s = .slice a n cap) (hown : Owns w B e size a n cap xs)
    (b : Option Addr) (m d : Nat) (news : List Value) (hx : act.eval x = .slice b m d) (hr : ReadsC w b m d size news)
    (h63 : n + m ≤ maxLen) (hbytes : (n + m) * bytes ≤ 140737488355328) (hbase : B ≤ w.heap.size)
    (h : ∀ a' cap' w', Owns w' B e size a' (n + m) cap' (xs ++ news) → w.grownBy w' (blk a) → Below B w w' → (∀ x, a' = some x → a = some x ∨ w.heap.size ≤ x.block) → wpList P ops Q rest (act.put o.dst (.slice a' (n + m) cap')) w') :
    wpList P ops Q (o :: rest) act w := by
  obtain ⟨i, hi, hz, hsize, hby⟩ := info_parts hinf
  obtain ⟨r1, r2, r3, r4⟩ := hr
  cases b with
  | none =>
    obtain ⟨q1, q2⟩ := r3 rfl
    subst q1 q2
    have hn : news = [] := List.eq_nil_of_length_eq_zero (by simpa using r1)
    subst hn
    refine wpList_append_own_none (w := w) hgd s x t ho B e i size ht hi _ n xs hs hown hx ?_
    have := h a cap w (by rw [List.append_nil]; exact hown) (World.grownBy.refl w _) (Below.refl _ _) (fun x hx => .inl hx)
    exact this
  | some y =>
    refine wpList_append_own_at w hgd s x t ho B e i z size bytes ht hi hz hsize hby hzs hsz (.slice a n cap) n xs hs hown y m d news hx r1 (r4 y rfl) r2 h63 hbytes hbase ?_
    intro v' w' hown' hgrow hnil hloc
    have hex : ∃ a' cap', v' = .slice a' (n + m) cap' := by
      rcases hown'.2 with ⟨h1, h2⟩ | ⟨g, cap', cur, h2, _⟩
      · exact ⟨none, 0, by rw [h1, h2]⟩
      · exact ⟨_, cap', h2⟩
    obtain ⟨a', cap', hv⟩ := hex
    rw [hv] at hown' hloc ⊢
    rw [ownBlock_eq] at hgrow
    refine h a' cap' w' hown' hgrow ?_ ?_
    · refine (Below.refl B w).grown hgrow hbase ?_
      intro k hk
      cases ha : a with
      | none => rw [ha] at hk; simp [blk] at hk
      | some z =>
        rw [ha] at hk
        subst ha
        have := (Owns.row hown).2.1
        simp [blk] at hk
        omega
    · intro z hz
      subst hz
      rcases hloc with hloc | hloc
      · left
        rw [ownBlock_eq, ownBlock_eq] at hloc
        cases ha : a with
        | none => rw [ha] at hloc; simp [blk] at hloc
        | some y =>
          rw [ha] at hloc
          subst ha
          have hr := Owns.row hown
          have hr' := Owns.row hown'
          simp [blk] at hloc
          rw [hr.1, hr'.1, hloc]
      · right
        rw [ownBlock_eq] at hloc
        simp [blk] at hloc
        omega
end Go.Proofs.Ytkahceijhokmoaa
