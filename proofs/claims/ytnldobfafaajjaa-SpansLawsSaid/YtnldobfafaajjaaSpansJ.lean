/- Contracts of spans as sets of places. -/
import Derived.Test.YtnldobfafaajjaaSpansG
import Derived.Test.YtnldobfafaajjaaSpansH
import Derived.Test.YtnldobfafaajjaaSpansI
import Derived.Test.YtnldobfafaajjaaSpansF
namespace Go.Proofs.Ytnldobfafaajjaa
open Go.RowKit
set_option linter.unusedVariables false
set_option linter.unusedSimpArgs false
/-- a slice of spans in a row that have these places -/
structure SpS (w : World) (a : Option Addr) (m c K : Nat) (p : Int → Bool) (l : List Spans.Sp) : Prop where
  set : Spans.Set p l
  rd : ReadsSp w w.heap.size a m c l
  nil : a = none → c = 0
  le : m ≤ K
theorem SpS.below {w w' : World} {a : Option Addr} {m c K : Nat} {p : Int → Bool} {l : List Spans.Sp} (h : SpS w a m c K p l) (hb : Below w.heap.size w w') : SpS w' a m c K p l := ⟨h.set, (h.rd.below hb).up hb.size, h.nil, h.le⟩
theorem SpS.below' {w w' : World} {a : Option Addr} {m c K : Nat} {p : Int → Bool} {l : List Spans.Sp} (h : Hid (SpS w a m c K p l)) (hb : Below w.heap.size w w') : Hid (SpS w' a m c K p l) := Lib.hid (h.out.below hb)
theorem SpS.self {w : World} {a : Option Addr} {m c K : Nat} {p : Int → Bool} {l : List Spans.Sp} (h : SpS w a m c K p l) : Spans.Norm l l := Spans.Norm.self h.set.1
def SpRes (w : World) (K : Nat) (p : Int → Bool) (e : Ending) (w' : World) : Prop := ∃ a m c l, e = .returned (.slice a m c) ∧ Hid (SpS w' a m c K p l) ∧ Below w.heap.size w w'
theorem Owns.spNil {w : World} {B e size : Nat} {a : Option Addr} {m c : Nat} {xs : List Value} (h : Owns w B e size a m c xs) : a = none → c = 0 := fun ha => by subst ha; exact h.of_none.2.1
theorem And_R {w : World} {x z : Option Addr} {n c n' c' : Nat} {l g : List Spans.Sp} (hl : ReadsSp w w.heap.size x n c l) (hg : ReadsSp w w.heap.size z n' c' g) {K : Nat} (hn : n ≤ 50000) (hn' : n' ≤ 50000) (hK : n + n' ≤ K) :
    Calls Try.prog 19 #[.slice x n c, .slice z n' c'] w (SpRes w K fun k => Spans.has l k && Spans.has g k) := by
  refine (And_any x z n c n' c' l g w hl hg hn hn').mono ?_
  rintro e w' ⟨a, m, d, rfl, nl, ng, h1, h2, h3, h4, h5, h6⟩
  exact ⟨a, m, d, _, rfl, Lib.hid ⟨Spans.Set.and h1 h2, h5.reads h3, h5.spNil, by omega⟩, h6⟩
theorem SpRes.congr {w : World} {K : Nat} {p q : Int → Bool} (h : ∀ k, 0 ≤ k → p k = q k) {e : Ending} {w' : World} (r : SpRes w K p e w') : SpRes w K q e w' := by
  obtain ⟨a, m, c, l, rfl, hs, hb⟩ := r
  exact ⟨a, m, c, l, rfl, Lib.hid ⟨hs.out.set.congr h, hs.out.rd, hs.out.nil, hs.out.le⟩, hb⟩
theorem And_S {w : World} {x z : Option Addr} {n c n' c' K K' : Nat} {p q : Int → Bool} {l g : List Spans.Sp} (h : Hid (SpS w x n c K p l)) (h' : Hid (SpS w z n' c' K' q g)) (hK : K ≤ 50000) (hK' : K' ≤ 50000) :
    Calls Try.prog 19 #[.slice x n c, .slice z n' c'] w (SpRes w (K + K') fun k => p k && q k) := by
  have a1 := h.out.le
  have a2 := h'.out.le
  refine (And_R (K := K + K') h.out.rd h'.out.rd (by omega) (by omega) (by omega)).mono fun e w' r => r.congr fun k hk => ?_
  rw [h.out.set.2 k hk, h'.out.set.2 k hk]
theorem Not_S {w : World} {x : Option Addr} {n c K : Nat} {p : Int → Bool} {l : List Spans.Sp} (N : Int) (h : Hid (SpS w x n c K p l)) (hK : K ≤ 50000) :
    Calls Try.prog 21 #[.slice x n c, .int .i64 N] w (SpRes w (K + 1) fun k => decide (k < N) && !p k) := by
  have a1 := h.out.le
  refine (Not_any x n c l N w h.out.rd (by omega)).mono ?_
  rintro e w' ⟨a, m, d, rfl, nl, h1, h2, h3, h4, h5, h6⟩
  refine ⟨a, m, d, _, rfl, Lib.hid ⟨(Spans.Set.not N h1).congr fun k hk => ?_, h5.reads h3, h5.spNil, by omega⟩, h6⟩
  rw [h.out.set.2 k hk]
theorem notC_S {w : World} {x : Option Addr} {n c K : Nat} {p : Int → Bool} {l : List Spans.Sp} (N : Int) (bx : Nat) (hc : w.cell? ⟨bx, 0, none⟩ = some (.int .i64 N)) (h : Hid (SpS w x n c K p l)) (hK : K ≤ 50000) :
    Calls Try.prog 20 #[.slice x n c, .pointer (some ⟨bx, 0, none⟩)] w (SpRes w (K + 1) fun k => decide (k < N) && !p k) := by
  have hn := Not_S N h hK
  generalize (fun k => decide (k < N) && !p k) = r at *
  go_enter Try.func20, Try.ntmps20
  go_wp2_with fail
  refine hn.mono ?_
  rintro e w1 ⟨a, m, d, l1, rfl, hs, hb⟩
  go_wp2_with fail
  go_ret
  exact ⟨a, m, d, l1, rfl, hs, hb⟩
theorem Of_S {w : World} {x : Option Addr} {n c K : Nat} {p : Int → Bool} {l : List Spans.Sp} (h : Hid (SpS w x n c K p l)) (hK : K ≤ 50000) :
    Calls Try.prog 15 #[.slice x n c] w (SpRes w K p) := by
  have a1 := h.out.le
  refine (Of_any x n c l w h.out.rd (by omega)).mono ?_
  rintro e w' ⟨a, m, d, ml, rfl, h1, h2, h3, h4, h5⟩
  refine ⟨a, m, d, _, rfl, Lib.hid ⟨(Spans.Set.norm h3).congr fun k hk => h.out.set.2 k hk, h4.reads h1, h4.spNil, by omega⟩, h5⟩
theorem Or_S {w : World} {x z : Option Addr} {n c n' c' K K' : Nat} {p q : Int → Bool} {l g : List Spans.Sp} (h : Hid (SpS w x n c K p l)) (h' : Hid (SpS w z n' c' K' q g)) (hK : K ≤ 50000) (hK' : K' ≤ 50000) :
    Calls Try.prog 22 #[.slice x n c, .slice z n' c'] w (SpRes w (K + K') fun k => p k || q k) := by
  have a1 := h.out.le
  have a2 := h'.out.le
  refine (Or_any x z n c n' c' l g w h.out.rd h'.out.rd h.out.nil h'.out.nil (by omega) (by omega)).mono ?_
  rintro e w' ⟨a, m, d, ml, rfl, h1, h2, h3, h4, h5⟩
  refine ⟨a, m, d, _, rfl, Lib.hid ⟨(Spans.Set.norm h3).congr fun k hk => ?_, h4.reads h1, h4.spNil, by omega⟩, h5⟩
  rw [Spans.has_append, h.out.set.2 k hk, h'.out.set.2 k hk]
theorem Eq_S {w : World} {x z : Option Addr} {n c n' c' K K' : Nat} {p q : Int → Bool} {l g : List Spans.Sp} (h : Hid (SpS w x n c K p l)) (h' : Hid (SpS w z n' c' K' q g)) (hK : K ≤ 50000) (he : ∀ k, 0 ≤ k → p k = q k) :
    Calls Try.prog 17 #[.slice x n c, .slice z n' c'] w fun e w' => e = .returned (.bool true) ∧ Below w.heap.size w w' := by
  have a1 := h.out.le
  refine (spEqual_any x z n n' c c' _ _ l g w (by omega) h.out.rd h'.out.rd).mono ?_
  rintro e w' ⟨rfl, k, rfl⟩
  exact ⟨ret_bool (decide_eq_true (h.out.set.uniq h'.out.set he)), bdrewN (Below.refl _ _) k⟩
theorem Size_S {w : World} {x : Option Addr} {n c K : Nat} {p : Int → Bool} {l : List Spans.Sp} (N : Nat) (hN : N ≤ 1073741824) (h : Hid (SpS w x n c K p l)) (hK : K ≤ 50000) (hp : ∀ k, 0 ≤ k → p k = true → k < (N : Int)) :
    Calls Try.prog 23 #[.slice x n c] w fun e w' => ∃ s : Int, e = .returned (.int .i64 s) ∧ Hid (s = Spans.cnt p N) ∧ 0 ≤ s ∧ s ≤ 1073741824 ∧ Below w.heap.size w w' := by
  have a1 := h.out.le
  have hlow := h.out.set.low (N : Int) (by omega) hp
  refine (Size_any x n c l w h.out.rd (by omega) (fun y hy => by have := hlow y hy; omega)).mono ?_
  rintro e w' ⟨ml, h1, rfl, h2⟩
  have he : ml = l := h1.uniq h.out.self
  subst he
  have ht := h.out.set.total N hp
  have hb := Spans.cnt_bound p N
  refine ⟨_, rfl, Lib.hid ht, ?_, ?_, h2⟩
  · show 0 ≤ Spans.total ml; omega
  · show Spans.total ml ≤ 1073741824; omega
end Go.Proofs.Ytnldobfafaajjaa
