/- What find.grown holds while the fails and the ends are told, and its queue. -/
import Derived.Test.YtkahceijhokmoaaAhoP
import Derived.Test.YtkahceijhokmoaaAppendR
import Derived.RegionTactic
import Derived.Laws.OwnMore
namespace Go.Proofs.Ytkahceijhokmoaa
open Go.RowKit
set_option linter.unusedVariables false
set_option linter.unusedSimpArgs false
theorem wpList_pushAt {P : Program} (w : World) {ops : Array Oper} {rest : List Oper} {o : Oper} {act : Act} {Q : Exit → Act → World → Prop} (hgd : o.guard = none) (s x : Operand) (t : TypeId)
    (ho : o.op = .call { callee := .builtin .append, args := #[s, x], argTypes := #[t, t] })
    (B : Nat) (e : TypeId) (z : Value) (bytes : Nat) (ht : P.underlying t = some (.slice e)) (hinf : (P.info? e).map (fun i => (i.zero, i.size, i.bytes)) = some (some z, 1, bytes)) (hzs : z.cells.size = 1)
    (g off n cap : Nat) (xs : List Value) (hs : act.eval s = .slice (some ⟨g, off, none⟩) n cap) (hown : OwnsAt w B e 1 g off n cap xs)
    (v : Value) (h1 : v.oneCell' = true) (hx : act.eval x = .slice (some ⟨w.heap.size, 0, none⟩) 1 1)
    (h63 : n + 1 ≤ maxLen) (hbytes : (n + 1) * bytes ≤ 140737488355328) (hbase : B ≤ w.heap.size)
    (h : ∀ g' off' cap' w', OwnsAt w' B e 1 g' off' (n + 1) cap' (xs ++ [v]) → (w.alloc (.cells #[v] e)).grownBy w' (some g) → (g' = g ∨ (w.alloc (.cells #[v] e)).heap.size ≤ g') → wpList P ops Q rest (act.put o.dst (.slice (some ⟨g', off', none⟩) (n + 1) cap')) w') :
    wpList P ops Q (o :: rest) act (w.alloc (.cells #[v] e)) := by
  refine wpList_plain hgd fun K' hK' => ?_
  obtain ⟨g', off', cap', w', hr, h2, h3, h4⟩ := run_pushAt (P := P) (w.alloc (.cells #[v] e)) t o.type B e z 1 bytes ht hinf hzs (by decide) g off n cap xs (hown.alloc _) w.heap.size 1 [v] rfl (by intro u hu; rw [List.mem_singleton.1 hu]; exact h1) (RowAt.new w e #[v]) h63 hbytes (by rw [World.size_alloc]; omega)
  unfold Oper.wp execOp
  simp only [ho, resolve, invoke, builtin, Sem.run_bind, Sem.run_pure, Result.andThen_ok, List.map_toArray, List.map_cons, List.map_nil, hs, hx, hr]
  exact hK' _ _ (h g' off' cap' w' h2 h3 h4)
/-- append(s, t...) inside a region that draws its order; t of any length -/
theorem step_appendR {P : Program} (w : World) {ops : Array Oper} {o : Oper} {act : Act} {K : Act → World → Prop} {Q : Exit → Act → World → Prop} {E : Prop} (hgd : o.guard = none) (s x : Operand) (t : TypeId)
    (ho : o.op = .call { callee := .builtin .append, args := #[s, x], argTypes := #[t, t] })
    (B : Nat) (e : TypeId) (z : Value) (size bytes : Nat) (ht : P.underlying t = some (.slice e)) (hinf : (P.info? e).map (fun i => (i.zero, i.size, i.bytes)) = some (some z, size, bytes)) (hzs : z.cells.size = size) (hsz : 0 < size)
    (a : Option Addr) (n cap : Nat) (xs : List Value) (hs : act.eval s = .slice a n cap) (hown : Owns w B e size a n cap xs)
    (b : Option Addr) (m d : Nat) (news : List Value) (hx : act.eval x = .slice b m d) (hr : ReadsC w b m d size news)
    (h63 : n + m ≤ maxLen) (hbytes : (n + m) * bytes ≤ 140737488355328) (hbase : B ≤ w.heap.size)
    (h : ∀ a' cap' w', Owns w' B e size a' (n + m) cap' (xs ++ news) → w.grownBy w' (blk a) → (∀ x, a' = some x → a = some x ∨ w.heap.size ≤ x.block) → K (act.put o.dst (.slice a' (n + m) cap')) w') :
    if Region.wanted o (yielded ops act.tmps) = true then Oper.wp P o act w K Q else E := by
  have hw : Region.wanted o (yielded ops act.tmps) = true := by simp [Region.wanted, hgd]
  rw [if_pos hw]
  obtain ⟨i, hi, hz, hsize, hby⟩ := info_parts hinf
  obtain ⟨r1, r2, r3, r4⟩ := hr
  cases b with
  | none =>
    obtain ⟨q1, q2⟩ := r3 rfl
    subst q1 q2
    have hn : news = [] := List.eq_nil_of_length_eq_zero (by simpa using r1)
    subst hn
    have hrun := run_append_owned_none (P := P) (w := w) B t o.type e i size ht hi (.slice a n cap) n xs hown
    unfold Oper.wp execOp
    simp only [ho, resolve, invoke, builtin, Sem.run_bind, Sem.run_pure, Result.andThen_ok, List.map_toArray, List.map_cons, List.map_nil, hs, hx, hrun]
    exact h a cap w (by rw [List.append_nil]; exact hown) (World.grownBy.refl w _) (fun x hx => .inl hx)
  | some y =>
    obtain ⟨v', w', hrun, hown', hgrow, hnil, hloc⟩ := run_append_own_at (P := P) w B t o.type e i z size bytes ht hi hz hsize hby hzs hsz (.slice a n cap) n xs hown y m d news r1 (r4 y rfl) r2 h63 hbytes hbase
    have hex : ∃ a' cap', v' = .slice a' (n + m) cap' := by
      rcases hown'.2 with ⟨h1, h2⟩ | ⟨g, cap', cur, h2, _⟩
      · exact ⟨none, 0, by rw [h1, h2]⟩
      · exact ⟨_, cap', h2⟩
    obtain ⟨a', cap', hv⟩ := hex
    rw [hv] at hown' hloc hrun
    rw [ownBlock_eq] at hgrow
    unfold Oper.wp execOp
    simp only [ho, resolve, invoke, builtin, Sem.run_bind, Sem.run_pure, Result.andThen_ok, List.map_toArray, List.map_cons, List.map_nil, hs, hx, hrun]
    refine h a' cap' w' hown' hgrow ?_
    intro z hz
    subst hz
    rcases hloc with hloc | hloc
    · left
      rw [ownBlock_eq, ownBlock_eq] at hloc
      cases ha : a with
      | none => rw [ha] at hloc; simp [blk] at hloc
      | some y =>
        rw [ha] at hloc
        subst ha
        have hr := Owns.row hown
        have hr' := Owns.row hown'
        simp [blk] at hloc
        rw [hr.1, hr'.1, hloc]
    · right
      rw [ownBlock_eq] at hloc
      simp [blk] at hloc
      omega
theorem add_row (b j : Nat) : (⟨b, 0, none⟩ : Addr).add j = ⟨b, j, none⟩ := by unfold Addr.add; split <;> simp_all
theorem Owns.readsC {w : World} {B : Nat} {e : TypeId} {a : Option Addr} {n cap : Nat} {L : List Int} (h : Owns w B e 1 a n cap (ivals L)) : ReadsC w a n cap 1 (ivals L) := by
  refine ⟨h.len, ?_, ?_, ?_⟩
  · intro u hu
    simp only [ivals, List.mem_map] at hu
    obtain ⟨z, _, rfl⟩ := hu
    rfl
  · intro e; subst e
    exact ⟨h.of_none.1, h.of_none.2.1⟩
  · intro y hy j u hj
    subst hy
    obtain ⟨h1, _, _, _, h5⟩ := h.row
    have hjl : j < (ivals L).length := by
      rcases Nat.lt_or_ge j (ivals L).length with h | h
      · exact h
      · rw [List.getElem?_eq_none h] at hj; cases hj
    rw [h1]
    rw [add_row, h5.cell0 j hjl, ← List.getElem?_eq_getElem hjl, hj]
structure PhB (w0 W : World) (B ga cap n q : Nat) (F : Nat → Nat → Option Nat) (T : List Nd) (N ps : List Aho.Wd) (df de : Aho.Wd → Bool) : Prop where
  tm : TreeM W B ga cap n q F T
  tr : Aho.Tree N
  hn : N.length = n
  mf : MapsOf N F
  fl : ∀ x ∈ N, (T.getD (Aho.ix N x) dn).f = Aho.failOf N df x
  en : ∀ x ∈ N, (T.getD (Aho.ix N x) dn).e = Aho.endsOf ps de x
  all : ∀ p ∈ ps, p ∈ N
  bel : Below B w0 W
  hB : B ≤ W.heap.size
/-- the queue -/
structure PhQ (W : World) (B ga n : Nat) (T : List Nd) (gq off nq cq : Nat) (L : List Nat) : Prop where
  own : OwnsAt W B 3 1 gq off nq cq (ivals (nints L))
  ne : ∀ i, i < n → some gq ≠ blk (T.getD i dn).a
section
variable {w0 W W' : World} {B ga cap n q : Nat} {F : Nat → Nat → Option Nat} {T : List Nd} {N ps : List Aho.Wd} {df de : Aho.Wd → Bool} {gq off nq cq : Nat} {L : List Nat}
theorem PhA.toB (h : PhA w0 W B ga cap n q F T N ps ps.length) (hne : ∀ p ∈ ps, p ≠ []) : PhB w0 W B ga cap n q F T N ps (fun x => decide (x = [])) (fun x => decide (x = [])) := by
  refine ⟨h.tm, h.tr, h.hn, h.mf, ?_, ?_, ?_, h.bel, h.hB⟩
  · intro x hx
    rw [h.fz _ (by rw [← h.hn]; exact Aho.ix_lt hx)]
    unfold Aho.failOf
    by_cases e : x = []
    · subst e
      rw [if_pos (by simp)]
      exact (Aho.ix_root h.tr).symm
    · rw [if_neg (by simpa using e)]
  · intro x hx
    rw [h.en x hx, own_take_all]
    unfold Aho.endsOf
    by_cases e : x = []
    · subst e; rw [if_pos (by simp)]; rfl
    · rw [if_neg (by simpa using e)]
  · intro p hp
    obtain ⟨j, hj, rfl⟩ := List.getElem_of_mem hp
    have := h.hp j hj
    rwa [List.getD_eq_getElem?_getD, List.getElem?_eq_getElem hj] at this
theorem PhB.drewN (h : PhB w0 W B ga cap n q F T N ps df de) (k : Nat) : PhB w0 (W.drewN k) B ga cap n q F T N ps df de := ⟨h.tm.drewN k, h.tr, h.hn, h.mf, h.fl, h.en, h.all, bdrewN h.bel k, h.hB⟩
theorem PhB.congr (h : PhB w0 W B ga cap n q F T N ps df de) {df' de' : Aho.Wd → Bool} (h1 : ∀ x, df x = df' x) (h2 : ∀ x, de x = de' x) : PhB w0 W B ga cap n q F T N ps df' de' :=
  ⟨h.tm, h.tr, h.hn, h.mf, fun x hx => by rw [h.fl x hx]; unfold Aho.failOf; rw [h1], fun x hx => by rw [h.en x hx]; unfold Aho.endsOf; rw [h2], h.all, h.bel, h.hB⟩
theorem PhB.setF (h : PhB w0 W B ga cap n q F T N ps df de) {y : Aho.Wd} (hy : y ∈ N) {i v : Nat} (hi : i = Aho.ix N y) (hv : v = Aho.ix N (Aho.lps N y)) :
    PhB w0 (W.setCell ⟨ga, i * 3 + 1, none⟩ (.int .i64 (v : Nat))) B ga cap n q F (T.set i { T.getD i dn with f := v }) N ps (fun x => df x || decide (x = y)) de := by
  have hin : i < n := by rw [hi, ← h.hn]; exact Aho.ix_lt hy
  have hti := h.tm.tlen i hin
  refine ⟨h.tm.setF i hin v, h.tr, h.hn, h.mf, ?_, ?_, h.all, h.bel.setCell (p := ⟨ga, i * 3 + 1, none⟩) h.tm.ga_lt.1 _, by rw [World.size_setCell]; exact h.hB⟩
  · intro x hx
    rw [getD_set _ _ _ _ hti]
    by_cases e : i = Aho.ix N x
    · have hxy : y = x := Aho.ix_inj hy hx (by rw [← hi, e])
      subst hxy
      rw [if_pos e]
      unfold Aho.failOf
      rw [if_pos (by simp)]
      exact hv
    · have hxy : x ≠ y := fun e2 => e (by rw [hi, e2])
      rw [if_neg e, h.fl x hx]
      unfold Aho.failOf
      simp [hxy]
  · intro x hx
    rw [getD_set _ _ _ _ hti]
    by_cases e : i = Aho.ix N x
    · rw [if_pos e]
      show (T.getD i dn).e = _
      rw [e]; exact h.en x hx
    · rw [if_neg e]; exact h.en x hx
theorem PhB.freeF (h : PhB w0 W B ga cap n q F T N ps df de) {y : Aho.Wd} (hd : df y = false) (hv : Aho.ix N (Aho.lps N y) = 0) : PhB w0 W B ga cap n q F T N ps (fun x => df x || decide (x = y)) de := by
  refine ⟨h.tm, h.tr, h.hn, h.mf, ?_, h.en, h.all, h.bel, h.hB⟩
  intro x hx
  rw [h.fl x hx]
  unfold Aho.failOf
  by_cases e : x = y
  · subst e; rw [hd, if_neg (by simp), if_pos (by simp), hv]
  · simp [e]
theorem PhB.setE (h : PhB w0 W B ga cap n q F T N ps df de) {y : Aho.Wd} (hy : y ∈ N) {i : Nat} (hi : i = Aho.ix N y) {W4 : World} {a' : Option Addr} {e' : List Nat} {c' : Nat} (he : e' = Aho.endsW ps y)
    (hown : Owns W4 B 3 1 a' e'.length c' (ivals (nints e'))) (hgrow : W.grownBy W4 (blk (T.getD i dn).a)) (hloc : ∀ x, a' = some x → (T.getD i dn).a = some x ∨ W.heap.size ≤ x.block) :
    RowAt W4 ga 0 53 (treeCells T) ∧ PhB w0 (W4.setCell ⟨ga, i * 3 + 2, none⟩ (.slice a' e'.length c')) B ga cap n q F (T.set i { T.getD i dn with a := a', e := e', c := c' }) N ps df (fun x => de x || decide (x = y)) := by
  have hin : i < n := by rw [hi, ← h.hn]; exact Aho.ix_lt hy
  have hti := h.tm.tlen i hin
  obtain ⟨h1, h2⟩ := h.tm.setE i hin hown hgrow hloc
  refine ⟨h1, h2, h.tr, h.hn, h.mf, ?_, ?_, h.all, (below_blk h.bel (h.tm.en i hin) (Nat.le_refl _) h.hB hgrow).setCell (p := ⟨ga, i * 3 + 2, none⟩) h.tm.ga_lt.1 _, by rw [World.size_setCell]; exact Nat.le_trans h.hB hgrow.size⟩
  · intro x hx
    rw [getD_set _ _ _ _ hti]
    by_cases e : i = Aho.ix N x
    · rw [if_pos e]
      show (T.getD i dn).f = _
      rw [e]; exact h.fl x hx
    · rw [if_neg e]; exact h.fl x hx
  · intro x hx
    rw [getD_set _ _ _ _ hti]
    by_cases e : i = Aho.ix N x
    · have hxy : y = x := Aho.ix_inj hy hx (by rw [← hi, e])
      subst hxy
      rw [if_pos e]
      unfold Aho.endsOf
      rw [if_pos (by simp)]
      exact he
    · have hxy : x ≠ y := fun e2 => e (by rw [hi, e2])
      rw [if_neg e, h.en x hx]
      unfold Aho.endsOf
      simp [hxy]
/-- the queue lies apart -/
theorem PhQ.apart (hq : PhQ W B ga n T gq off nq cq L) (h : TreeM W B ga cap n q F T) : gq ≠ ga ∧ ∀ b, InT ga T n b → b ≠ gq := by
  obtain ⟨cur, hg, _⟩ := hq.own.row
  have h1 : gq ≠ ga := by
    intro e
    obtain ⟨_, _, _, _, cur2, fz2, hg2, _⟩ := h.own.row
    rw [e] at hg
    change W.heap[ga]? = _ at hg2
    rw [hg] at hg2
    injection hg2 with hg2
    injection hg2 with _ hg2 _
    exact absurd hg2 (by decide)
  refine ⟨h1, ?_⟩
  rintro b (rfl | ⟨i, hi, rfl | hb⟩) e
  · exact h1 e.symm
  · obtain ⟨es, cl, hm⟩ := (h.mp i hi).1.obj
    rw [e, hg] at hm
    cases hm
  · exact hq.ne i hi (by rw [← e]; exact hb)
theorem PhQ.drewN (h : PhQ W B ga n T gq off nq cq L) (k : Nat) : PhQ (W.drewN k) B ga n T gq off nq cq L := ⟨h.own.keep rfl, h.ne⟩
theorem PhQ.setF (hq : PhQ W B ga n T gq off nq cq L) (h : TreeM W B ga cap n q F T) (i k : Nat) (hi : i < n) (u : Value) (v : Nat) : PhQ (W.setCell ⟨ga, k, none⟩ u) B ga n (T.set i { T.getD i dn with f := v }) gq off nq cq L := by
  refine ⟨hq.own.keep (Below.heap_setCell W _ _ gq (hq.apart h).1), fun j hj => ?_⟩
  rw [getD_set _ _ _ _ (h.tlen i hi)]
  by_cases e : i = j
  · rw [if_pos e]; exact hq.ne i hi
  · rw [if_neg e]; exact hq.ne j hj
theorem PhQ.setE (hq : PhQ W B ga n T gq off nq cq L) (h : TreeM W B ga cap n q F T) (i k : Nat) (hi : i < n) {W4 : World} {a' : Option Addr} {e' : List Nat} {c' : Nat} (u : Value)
    (hgrow : W.grownBy W4 (blk (T.getD i dn).a)) (hloc : ∀ x, a' = some x → (T.getD i dn).a = some x ∨ W.heap.size ≤ x.block) : PhQ (W4.setCell ⟨ga, k, none⟩ u) B ga n (T.set i { T.getD i dn with a := a', e := e', c := c' }) gq off nq cq L := by
  have hlt := hq.own.lt
  refine ⟨(hq.own.keep (hgrow.block gq hlt (hq.ne i hi))).keep (Below.heap_setCell W4 _ _ gq (hq.apart h).1), fun j hj => ?_⟩
  rw [getD_set _ _ _ _ (h.tlen i hi)]
  by_cases e : i = j
  · rw [if_pos e]
    intro e2
    cases ha : a' with
    | none => simp only [ha] at e2; cases e2
    | some x =>
      simp only [ha] at e2
      have hx := Option.some.inj e2
      rcases hloc x ha with h1 | h1
      · exact hq.ne i hi (by rw [h1]; exact e2)
      · change gq = x.block at hx; omega
  · rw [if_neg e]; exact hq.ne j hj
theorem PhQ.push (hq : PhQ W B ga n T gq off nq cq L) (h : PhB w0 W B ga cap n q F T N ps df de) {W4 : World} {g' off' c' v : Nat} (hown : OwnsAt W4 B 3 1 g' off' (nq + 1) c' (ivals (nints L) ++ [.int .i64 (v : Nat)]))
    (hgrow : (W.alloc (.cells #[.int .i64 (v : Nat)] 3)).grownBy W4 (some gq)) (hloc : g' = gq ∨ (W.alloc (.cells #[.int .i64 (v : Nat)] 3)).heap.size ≤ g') :
    PhQ W4 B ga n T g' off' (nq + 1) c' (L ++ [v]) ∧ PhB w0 W4 B ga cap n q F T N ps df de := by
  have hap := hq.apart h.tm
  have hkeep : ∀ b, InT ga T n b → W4.heap[b]? = W.heap[b]? := fun b hb => by
    have hlt := (h.tm.in_lt hb).2
    rw [hgrow.block b (by rw [World.size_alloc]; omega) (fun e => hap.2 b hb (Option.some.inj e)), Below.heap_alloc _ _ _ hlt]
  refine ⟨⟨?_, fun j hj => ?_⟩, h.tm.keep hkeep, h.tr, h.hn, h.mf, h.fl, h.en, h.all, ?_, ?_⟩
  · rw [show ivals (nints (L ++ [v])) = ivals (nints L) ++ [.int .i64 (v : Nat)] by simp [nints, ivals]]
    exact hown
  · rcases hloc with h1 | h1
    · rw [h1]; exact hq.ne j hj
    · intro e
      have := (h.tm.in_lt (.inr ⟨j, hj, .inr e⟩)).2
      rw [World.size_alloc] at h1
      omega
  · exact (h.bel.alloc h.hB _).grown hgrow (by rw [World.size_alloc]; have := h.hB; omega) (fun k e => by have := hq.own.base; cases e; omega)
  · exact Nat.le_trans h.hB (Nat.le_trans (by rw [World.size_alloc]; omega) hgrow.size)
theorem PhB.alloc (h : PhB w0 W B ga cap n q F T N ps df de) (o : Obj) : PhB w0 (W.alloc o) B ga cap n q F T N ps df de := ⟨h.tm.alloc o, h.tr, h.hn, h.mf, h.fl, h.en, h.all, h.bel.alloc h.hB o, by rw [World.size_alloc]; have := h.hB; omega⟩
theorem PhQ.start (h : TreeM W B ga cap n q F T) (hB : B ≤ W.heap.size) : PhQ (W.alloc (.cells #[.int .i64 0] 3)) B ga n T W.heap.size 0 1 1 [0] := by
  refine ⟨(Owns.of_row (B := B) (e := 3) (size := 1) (n := 1) (cap := 1) (xs := [.int .i64 0]) rfl _ W.heap.size #[.int .i64 0] hB (heap_alloc_new W _) rfl (Nat.le_refl _) (by unfold maxLen; omega) rfl).at_, fun i hi e => ?_⟩
  have := (h.in_lt (.inr ⟨i, hi, .inr e⟩)).2
  omega
theorem PhQ.rest {i0 : Nat} (h : PhQ W B ga n T gq off nq cq (i0 :: L)) : ∃ off2, (if cq = 1 then some (⟨gq, off, none⟩ : Addr) else some ⟨gq, off + 1, none⟩) = some ⟨gq, off2, none⟩ ∧ PhQ W B ga n T gq off2 (nq - 1) (cq - 1) L := by
  have hlen := h.own.len
  have hn1 : 1 ≤ nq := by simp [nints, ivals] at hlen; omega
  have hd := h.own.drop 1 hn1
  have hg : (ivals (nints (i0 :: L))).drop (1 * 1) = ivals (nints L) := rfl
  rw [hg] at hd
  by_cases hc : cq = 1
  · have hle := h.own.le
    refine ⟨off, by rw [if_pos hc], ⟨?_, h.ne⟩⟩
    obtain ⟨cur, h1, h2, h3⟩ := hd.row
    have hl := hd.len
    have h0 : (ivals (nints L)).length = 0 := by rw [hl, show nq - 1 = 0 from by omega]
    obtain ⟨cur0, k1, k2, k3⟩ := h.own.row
    exact ⟨hd.len, hd.base, hd.le, hd.max, cur0, k1, by rw [hc] at k2 ⊢; omega, fun i hi => by omega⟩
  · exact ⟨off + 1 * 1, by rw [if_neg hc], ⟨hd, h.ne⟩⟩
theorem PhQ.head {i0 : Nat} (h : PhQ W B ga n T gq off nq cq (i0 :: L)) : W.cell? ⟨gq, off, none⟩ = some (.int .i64 (i0 : Nat)) := by
  have := h.own.rowAt.cell 0 (by simp [nints, ivals])
  rw [Nat.add_zero] at this
  exact this
theorem PhQ.len (h : PhQ W B ga n T gq off nq cq L) : nq = L.length := by
  have := h.own.len
  simp [nints, ivals] at this
  exact this.symm
end
end Go.Proofs.Ytkahceijhokmoaa
