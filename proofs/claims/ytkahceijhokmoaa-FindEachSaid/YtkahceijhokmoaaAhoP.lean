/- What find.grown holds while the tree is made: first the words, then the fails and the ends. -/
import Derived.Test.YtkahceijhokmoaaAhoS
import Derived.Test.YtkahceijhokmoaaOwnAt
namespace Go.Proofs.Ytkahceijhokmoaa
open Go.RowKit
set_option linter.unusedVariables false
set_option linter.unusedSimpArgs false
theorem own_take (ps : List Aho.Wd) (k : Nat) (hk : k < ps.length) (x : Aho.Wd) : Aho.own (ps.take (k + 1)) x = Aho.own (ps.take k) x ++ (if ps.getD k [] = x then [k] else []) := by
  have hlen : (ps.take (k + 1)).length = k + 1 := by rw [List.length_take]; omega
  have hlen2 : (ps.take k).length = k := by rw [List.length_take]; omega
  have hget : ∀ m j, j < m → (ps.take m).getD j [] = ps.getD j [] := by
    intro m j hj
    rw [List.getD_eq_getElem?_getD, List.getElem?_take_of_lt hj, List.getD_eq_getElem?_getD]
  unfold Aho.own
  rw [hlen, hlen2, List.range_succ, List.filter_append]
  congr 1
  · apply List.filter_congr
    intro j hj
    rw [List.mem_range] at hj
    rw [hget _ _ (by omega), hget _ _ hj]
  · by_cases h : ps.getD k [] = x
    · rw [if_pos h, List.filter_cons_of_pos (by rw [hget _ _ (by omega)]; exact decide_eq_true h)]; rfl
    · rw [if_neg h, List.filter_cons_of_neg (by rw [hget _ _ (by omega)]; simpa using h)]; rfl
theorem own_take_all (ps : List Aho.Wd) (x : Aho.Wd) : Aho.own (ps.take ps.length) x = Aho.own ps x := by rw [List.take_length]
structure PhA (w0 W : World) (B ga cap n q : Nat) (F : Nat → Nat → Option Nat) (T : List Nd) (N ps : List Aho.Wd) (k : Nat) : Prop where
  tm : TreeM W B ga cap n q F T
  tr : Aho.Tree N
  hn : N.length = n
  mf : MapsOf N F
  fz : ∀ i, i < n → (T.getD i dn).f = 0
  en : ∀ x ∈ N, (T.getD (Aho.ix N x) dn).e = Aho.own (ps.take k) x
  hp : ∀ j, j < k → ps.getD j [] ∈ N
  hq : q + 1 ≤ n
  hk : k ≤ ps.length
  bel : Below B w0 W
  hB : B ≤ W.heap.size
section
variable {w0 W W' : World} {B ga cap n q k : Nat} {F : Nat → Nat → Option Nat} {T : List Nd} {N ps : List Aho.Wd}
theorem PhA.drewN (h : PhA w0 W B ga cap n q F T N ps k) (m : Nat) : PhA w0 (W.drewN m) B ga cap n q F T N ps k := ⟨h.tm.drewN m, h.tr, h.hn, h.mf, h.fz, h.en, h.hp, h.hq, h.hk, bdrewN h.bel m, h.hB⟩
/-- one word more -/
theorem PhA.new (h : PhA w0 W B ga cap n q F T N ps k) {W4 W5 : World} {ga' cap' : Nat} {z : Aho.Wd} {c : Nat} (hz : z ∈ N) (hc : c < 256) (hy : z ++ [UInt8.ofNat c] ∉ N)
    (hown : Owns W4 B 53 3 (some ⟨ga', 0, none⟩) (n + 1) cap' (treeCells T ++ [.map (some W.heap.size), .int .i64 0, .slice none 0 0])) (hgrow : (W.alloc (.map #[] 0)).grownBy W4 (some ga))
    (hmb : MapB Try.prog 5 3 W5 (T.getD (Aho.ix N z) dn).m (q + 1) (updB (F (Aho.ix N z)) c n)) (hgr5 : W4.grownBy W5 (some (T.getD (Aho.ix N z) dn).m)) :
    PhA w0 W5 B ga' cap' (n + 1) (q + 1) (updF (addF F n) (Aho.ix N z) c n) (T ++ [⟨W.heap.size, 0, none, [], 0⟩]) (N ++ [z ++ [UInt8.ofNat c]]) ps k := by
  have hiz : Aho.ix N z < n := by rw [← h.hn]; exact Aho.ix_lt hz
  have h4 := h.tm.addN hown hgrow h.hB
  have hold : ∀ j, j < n → (T ++ [(⟨W.heap.size, 0, none, [], 0⟩ : Nd)]).getD j dn = T.getD j dn := by
    intro j hj
    rw [List.getD_eq_getElem?_getD, List.getElem?_append_left (by rw [h.tm.len]; exact hj), List.getD_eq_getElem?_getD]
  have hnw : (T ++ [(⟨W.heap.size, 0, none, [], 0⟩ : Nd)]).getD n dn = ⟨W.heap.size, 0, none, [], 0⟩ := by
    rw [List.getD_eq_getElem?_getD, List.getElem?_append_right (by rw [h.tm.len]; exact Nat.le_refl _), h.tm.len, Nat.sub_self]; rfl
  have haf : addF F n (Aho.ix N z) = F (Aho.ix N z) := if_neg (by omega)
  have h5 := h4.setM (Aho.ix N z) (by omega) c n (m := (T.getD (Aho.ix N z) dn).m) (by rw [hold _ hiz]) (W4 := W5) (by rw [haf]; exact hmb) hgr5
  have htr := h.tr.add hz hy
  refine ⟨h5, htr, by simp [h.hn], ?_, ?_, ?_, ?_, by have := h.hq; omega, h.hk, ?_, ?_⟩
  · intro x hx d hd
    rcases List.mem_append.1 hx with hx | hx
    · rw [Aho.ix_app hx, Aho.child_add h.tr hz hy x hx, h.hn]
      have hix : Aho.ix N x < n := by rw [← h.hn]; exact Aho.ix_lt hx
      unfold updF
      by_cases e : x = z
      · subst e
        rw [if_pos rfl, haf]
        unfold updB
        by_cases ed : d = c
        · subst ed; rw [if_pos rfl, if_pos ⟨rfl, rfl⟩]
        · rw [if_neg ed, if_neg (fun e2 => ed (Aho.ofNat_inj hd hc e2.2))]
          exact h.mf _ hz d hd
      · rw [if_neg (fun e2 => e (Aho.ix_inj hx hz e2)), if_neg (fun e2 => e e2.1)]
        unfold addF
        rw [if_neg (by omega)]
        exact h.mf x hx d hd
    · rw [List.mem_singleton.1 hx, Aho.ix_new hy, Aho.child_new h.tr hz hy, h.hn]
      unfold updF
      rw [if_neg (by omega)]
      unfold addF
      rw [if_pos rfl]
  · intro i hi
    by_cases e : i = n
    · subst e; rw [hnw]
    · rw [hold i (by omega)]; exact h.fz i (by omega)
  · intro x hx
    rcases List.mem_append.1 hx with hx | hx
    · rw [Aho.ix_app hx, hold _ (by rw [← h.hn]; exact Aho.ix_lt hx)]; exact h.en x hx
    · rw [List.mem_singleton.1 hx, Aho.ix_new hy, h.hn, hnw]
      have : Aho.own (ps.take k) (z ++ [UInt8.ofNat c]) = [] := by
        refine Aho.own_none (N := N) ?_ hy
        intro p hp
        obtain ⟨j, hj, rfl⟩ := List.getElem_of_mem hp
        have hj2 : j < k := by rw [List.length_take] at hj; omega
        have := h.hp j hj2
        rw [List.getElem_take]
        rwa [List.getD_eq_getElem?_getD, List.getElem?_eq_getElem (by have := h.hk; omega)] at this
      rw [this]
  · intro j hj; exact List.mem_append_left _ (h.hp j hj)
  · have hb1 : Below B w0 (W.alloc (.map #[] 0)) := h.bel.alloc h.hB _
    have hb4 := hb1.grown hgrow (by rw [World.size_alloc]; have := h.hB; omega) (fun b e => by have := h.tm.ga_lt.1; cases e; omega)
    exact hb4.grown hgr5 (Nat.le_trans h.hB (Nat.le_trans (by rw [World.size_alloc]; omega) hgrow.size)) (fun b e => by have := (h.tm.mp _ hiz).2; cases e; omega)
  · exact Nat.le_trans h.hB (Nat.le_trans (Nat.le_trans (by rw [World.size_alloc]; omega) hgrow.size) hgr5.size)
/-- a pattern's end -/
theorem PhA.ended (h : PhA w0 W B ga cap n q F T N ps k) (hk : k < ps.length) {p : Aho.Wd} {i : Nat} (hp : ps.getD k [] = p) (hm : p ∈ N) (hi : i = Aho.ix N p) {W4 : World} {a' : Option Addr} {c' : Nat}
    (hown : Owns W4 B 3 1 a' ((T.getD i dn).e.length + 1) c' (ivals (nints (T.getD i dn).e) ++ [.int .i64 (k : Nat)]))
    (hgrow : W.grownBy W4 (blk (T.getD i dn).a)) (hloc : ∀ x, a' = some x → (T.getD i dn).a = some x ∨ W.heap.size ≤ x.block) :
    RowAt W4 ga 0 53 (treeCells T) ∧ PhA w0 (W4.setCell ⟨ga, i * 3 + 2, none⟩ (.slice a' ((T.getD i dn).e.length + 1) c')) B ga cap n q F
      (T.set i { T.getD i dn with a := a', e := (T.getD i dn).e ++ [k], c := c' }) N ps (k + 1) := by
  have hin : i < n := by rw [hi, ← h.hn]; exact Aho.ix_lt hm
  have hti := h.tm.tlen i hin
  have hown2 : Owns W4 B 3 1 a' ((T.getD i dn).e ++ [k]).length c' (ivals (nints ((T.getD i dn).e ++ [k]))) := by
    rw [show ((T.getD i dn).e ++ [k]).length = (T.getD i dn).e.length + 1 by simp, show ivals (nints ((T.getD i dn).e ++ [k])) = ivals (nints (T.getD i dn).e) ++ [.int .i64 (k : Nat)] by simp [nints, ivals]]
    exact hown
  obtain ⟨h1, h2⟩ := h.tm.setE i hin hown2 hgrow hloc
  rw [show ((T.getD i dn).e ++ [k]).length = (T.getD i dn).e.length + 1 by simp] at h2
  refine ⟨h1, h2, h.tr, h.hn, h.mf, ?_, ?_, ?_, h.hq, hk, ?_, ?_⟩
  · intro j hj
    rw [getD_set _ _ _ _ hti]
    by_cases e : i = j
    · rw [if_pos e]; exact h.fz i hin
    · rw [if_neg e]; exact h.fz j hj
  · intro x hx
    rw [own_take ps k hk, getD_set _ _ _ _ hti, hp]
    by_cases e : i = Aho.ix N x
    · have hxp : p = x := Aho.ix_inj hm hx (by rw [← hi, e])
      rw [if_pos e, if_pos hxp]
      show (T.getD i dn).e ++ [k] = _
      rw [e, h.en x hx]
    · rw [if_neg e, if_neg (fun e2 => e (by rw [hi, e2])), List.append_nil]
      exact h.en x hx
  · intro j hj
    by_cases e : j = k
    · subst e; rw [hp]; exact hm
    · exact h.hp j (by omega)
  · have hb4 := below_blk h.bel (h.tm.en i hin) (Nat.le_refl _) h.hB hgrow
    exact hb4.setCell (p := ⟨ga, i * 3 + 2, none⟩) h.tm.ga_lt.1 _
  · rw [World.size_setCell]; exact Nat.le_trans h.hB hgrow.size
end
end Go.Proofs.Ytkahceijhokmoaa
