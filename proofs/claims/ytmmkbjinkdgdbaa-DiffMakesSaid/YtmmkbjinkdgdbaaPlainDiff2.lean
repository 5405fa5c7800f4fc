/- Plain law of diff.Far, second part: what the map holds, round by round. -/
import Derived.Test.YtmmkbjinkdgdbaaPlainDiff
import Derived.Test.YtmmkbjinkdgdbaaMapI
namespace Go.Proofs.Ytmmkbjinkdgdbaa
namespace Diff
set_option linter.unusedVariables false
set_option linter.unusedSimpArgs false
variable {α : Type} {a b : List α}

theorem Comes.within {d x y : Nat} (h : Comes a b d x y) : x ≤ a.length + d ∧ y ≤ b.length + d := by
  induction h with
  | start => omega
  | right _ ih => omega
  | down _ ih => omega
  | on v _ hx hy ih =>
    have h1 := (List.getElem?_eq_some_iff.mp hx).1
    have h2 := (List.getElem?_eq_some_iff.mp hy).1
    omega

theorem Far.unique {d : Nat} {k : Int} {x y : Nat} (h : Far a b d k x) (g : Far a b d k y) : x = y := by
  obtain ⟨u, hu, hc⟩ := h.comes
  obtain ⟨v, hv, gc⟩ := g.comes
  have := h.most y v gc (by omega)
  have := g.most x u hc (by omega)
  omega

theorem Far.diag {d : Nat} {k : Int} {x : Nat} (h : Far a b d k x) : -(d : Int) ≤ k ∧ k ≤ d ∧ (k - d) % 2 = 0 ∧ k ≤ x ∧ x ≤ a.length + d := by
  obtain ⟨u, hu, hc⟩ := h.comes
  have := hc.diag
  have := hc.within
  omega

/-- Both texts are used up. -/
def Ended (a b : List α) (k : Int) (x : Nat) : Prop := a.length ≤ x ∧ (b.length : Int) ≤ x - k

/-- What the rounds ahead of d have shown, and left in the map. -/
structure Rd (a b : List α) (d : Nat) (F : Int → Int) : Prop where
  one : d = 0 → F 1 = 0
  far : ∀ e, e + 1 = d → ∀ k : Int, -(e : Int) ≤ k → k ≤ e → (k - e) % 2 = 0 → ∃ x : Nat, F k = x ∧ Far a b e k x
  ever : ∀ e, e < d → ∀ k : Int, -(e : Int) ≤ k → k ≤ e → (k - e) % 2 = 0 → ∃ x : Nat, Far a b e k x
  never : ∀ e, e < d → ∀ (k : Int) (x : Nat), Far a b e k x → ¬ Ended a b k x

theorem Rd.start (F : Int → Int) (h : F 1 = 0) : Rd a b 0 F :=
  ⟨fun _ => h, fun e he => by omega, fun e he => by omega, fun e he => by omega⟩

/-- There are no more rounds than bytes. -/
theorem Rd.le {d : Nat} {F : Int → Int} (h : Rd a b d F) : d ≤ a.length + b.length := by
  by_cases hd : d ≤ a.length + b.length
  · exact hd
  · have hc := Comes.ends (Made.all a b)
    obtain ⟨x, hx⟩ := h.ever (a.length + b.length) (by omega) ((a.length : Int) - b.length) (by omega) (by omega) (by omega)
    have := hx.most _ _ hc rfl
    exact absurd ⟨this, by omega⟩ (h.never _ (by omega) _ x hx)

/-- .. and the diagonals of round d ahead of K. -/
structure In (a b : List α) (d : Nat) (K : Int) (F : Int → Int) : Prop where
  rd : Rd a b d F
  done : ∀ k : Int, -(d : Int) ≤ k → k < K → (k - d) % 2 = 0 → ∃ x : Nat, F k = x ∧ Far a b d k x ∧ ¬ Ended a b k x

theorem Rd.inner {d : Nat} {F : Int → Int} (h : Rd a b d F) : In a b d (-(d : Int)) F := ⟨h, fun k h1 h2 => by omega⟩

theorem In.next {d : Nat} {K : Int} {F : Int → Int} {x : Nat} (h : In a b d K F) (hp : (K - d) % 2 = 0) (hk : K ≤ d) (hx : Far a b d K x) (hn : ¬ Ended a b K x) : In a b d (K + 2) (updI F K x) := by
  refine ⟨⟨fun e => ?_, fun e he k h1 h2 h3 => ?_, h.rd.ever, h.rd.never⟩, fun k h1 h2 h3 => ?_⟩
  · rw [updI_other _ _ _ _ (by omega)]; exact h.rd.one e
  · rw [updI_other _ _ _ _ (by omega)]; exact h.rd.far e he k h1 h2 h3
  · by_cases e : k = K
    · subst e; exact ⟨x, updI_same _ _ _, hx, hn⟩
    · rw [updI_other _ _ _ _ e]; exact h.done k h1 (by omega) h3

theorem In.over {d : Nat} {K : Int} {F : Int → Int} (h : In a b d K F) (hk : (d : Int) < K) : Rd a b (d + 1) F := by
  refine ⟨fun e => by omega, fun e he k h1 h2 h3 => ?_, fun e he k h1 h2 h3 => ?_, fun e he k x hx => ?_⟩
  · obtain rfl : e = d := by omega
    obtain ⟨x, p, q, _⟩ := h.done k h1 (by omega) h3
    exact ⟨x, p, q⟩
  · by_cases hed : e = d
    · subst hed
      obtain ⟨x, p, q, _⟩ := h.done k h1 (by omega) h3
      exact ⟨x, q⟩
    · exact h.rd.ever e (by omega) k h1 h2 h3
  · by_cases hed : e = d
    · subst hed
      have hd := hx.diag
      obtain ⟨y, p, q, r⟩ := h.done k (by omega) (by omega) (by omega)
      rw [hx.unique q]; exact r
    · exact h.rd.never e (by omega) k x hx

/-- On the way along diagonal K. -/
structure Slide (a b : List α) (d : Nat) (K : Int) (x : Nat) : Prop where
  comes : ∃ y : Nat, (y : Int) = x - K ∧ Comes a b d x y
  most : ∀ e, e + 1 = d → (∀ x' y', Comes a b e x' y' → (x' : Int) - y' = K - 1 → x' + 1 ≤ x) ∧ (∀ x' y', Comes a b e x' y' → (x' : Int) - y' = K + 1 → x' ≤ x)

theorem Slide.step {d : Nat} {K : Int} {x y : Nat} (h : Slide a b d K x) (hy : (y : Int) = x - K) (v : α) (h1 : a[x]? = some v) (h2 : b[y]? = some v) : Slide a b d K (x + 1) := by
  obtain ⟨y', e, hc⟩ := h.comes
  obtain rfl : y' = y := by omega
  refine ⟨⟨y' + 1, by omega, hc.on v h1 h2⟩, fun e he => ?_⟩
  obtain ⟨p, q⟩ := h.most e he
  exact ⟨fun x' y' h g => by have := p x' y' h g; omega, fun x' y' h g => by have := q x' y' h g; omega⟩

theorem Slide.far {d : Nat} {K : Int} {x : Nat} (h : Slide a b d K x) (hs : Stuck a b x K) : Far a b d K x := by
  cases d with
  | zero =>
    obtain ⟨y, e, hc⟩ := h.comes
    have := hc.diag
    obtain rfl : K = 0 := by omega
    obtain rfl : y = x := by omega
    exact Far.zero hc hs
  | succ d =>
    obtain ⟨p, q⟩ := h.most d rfl
    exact Far.next h.comes hs p q

/-- Where the way along diagonal K begins: from above. -/
theorem In.from_right {d : Nat} {K : Int} {F : Int → Int} (h : In a b d K F) (hp : (K - d) % 2 = 0) (h1 : -(d : Int) ≤ K) (h2 : K ≤ d) (hc : K = -(d : Int) ∨ K ≠ d ∧ F (K - 1) < F (K + 1)) : ∃ x : Nat, F (K + 1) = x ∧ Slide a b d K x := by
  cases d with
  | zero =>
    obtain rfl : K = 0 := by omega
    exact ⟨0, h.rd.one rfl, ⟨0, by omega, .start⟩, fun e he => by omega⟩
  | succ d =>
    obtain ⟨x, hx, hf⟩ := h.rd.far d rfl (K + 1) (by omega) (by omega) (by omega)
    obtain ⟨y, hy, hcm⟩ := hf.comes
    refine ⟨x, hx, ⟨y + 1, by omega, hcm.down⟩, fun e he => ?_⟩
    obtain rfl : e = d := by omega
    refine ⟨fun x' y' g hk => ?_, fun x' y' g hk => hf.most x' y' g hk⟩
    have hd := g.diag
    rcases hc with hc | ⟨_, hc⟩
    · omega
    · obtain ⟨z, hz, hg⟩ := h.rd.far e rfl (K - 1) (by omega) (by omega) (by omega)
      have := hg.most x' y' g hk
      omega

/-- .. from the left. -/
theorem In.from_left {d : Nat} {K : Int} {F : Int → Int} (h : In a b d K F) (hp : (K - d) % 2 = 0) (h1 : -(d : Int) ≤ K) (h2 : K ≤ d) (h0 : K ≠ -(d : Int)) (hc : K = d ∨ F (K + 1) ≤ F (K - 1)) : ∃ x : Nat, F (K - 1) + 1 = x ∧ Slide a b d K x := by
  cases d with
  | zero => omega
  | succ d =>
    obtain ⟨x, hx, hf⟩ := h.rd.far d rfl (K - 1) (by omega) (by omega) (by omega)
    obtain ⟨y, hy, hcm⟩ := hf.comes
    refine ⟨x + 1, by omega, ⟨y, by omega, hcm.right⟩, fun e he => ?_⟩
    obtain rfl : e = d := by omega
    refine ⟨fun x' y' g hk => by have := hf.most x' y' g hk; omega, fun x' y' g hk => ?_⟩
    have hd := g.diag
    rcases hc with hc | hc
    · omega
    · obtain ⟨z, hz, hg⟩ := h.rd.far e rfl (K + 1) (by omega) (by omega) (by omega)
      have := hg.most x' y' g hk
      omega

/-- The return. -/
theorem In.least {d : Nat} {K : Int} {F : Int → Int} {x : Nat} (h : In a b d K F) (hx : Far a b d K x) (he : Ended a b K x) : Least a b d :=
  least_of hx he.1 he.2 h.rd.never h.rd.ever

end Diff
end Go.Proofs.Ytmmkbjinkdgdbaa
