/- Contract of huff.Lens. -/
import Derived.Test.YtenhblpegobbjaaHuffB
import Derived.Test.YtenhblpegobbjaaPushAt
import Derived.Deep.DeepCutAuto
import Derived.Deep.CutBlock
import Derived.Deep.RegionHeld3
import Derived.Deep.AppendLies
namespace Go.Proofs.Ytenhblpegobbjaa
open Go.RowKit
set_option linter.unusedVariables false
set_option linter.unusedSimpArgs false
open Huff
namespace Huff
theorem leavesFrom_append : ∀ (A B : List Nat) (i : Nat), leavesFrom i (A ++ B) = leavesFrom i A ++ leavesFrom (i + A.length) B := by
  intro A
  induction A with
  | nil => intro B i; rfl
  | cons a A ih =>
    intro B i
    have e : ∀ D, leavesFrom i (a :: D) = if 0 < a then ⟨a, i, [i]⟩ :: leavesFrom (i + 1) D else leavesFrom (i + 1) D := fun D => by rw [leavesFrom]
    rw [List.cons_append, e, e, ih, List.length_cons, show i + 1 + A.length = i + (A.length + 1) from by omega]
    split <;> rfl
theorem leaves_take (C : List Nat) (k : Nat) (h : k < C.length) : leaves (C.take (k + 1)) = leaves (C.take k) ++ if 0 < C.getD k 0 then [⟨C.getD k 0, k, [k]⟩] else [] := by
  have h2 : (C.take k).length = k := by rw [List.length_take]; omega
  unfold leaves
  rw [List.take_succ_eq_append_getElem h, leavesFrom_append, h2, Nat.zero_add, List.getD_eq_getElem?_getD, List.getElem?_eq_getElem h]
  rfl
end Huff
theorem infoGrp : (Try.prog.info? 121).map (fun i => (i.zero, i.size, i.bytes)) = some (some (.agg #[.int .i64 0, .int .i64 0, .slice none 0 0]), 3, 40) := by kernel_rfl
theorem gvs_append (L M : List GV) : gvs (L ++ M) = gvs L ++ gvs M := by simp [gvs]
theorem gvs_length (L : List GV) : (gvs L).length = L.length * 3 := flat_len gvEnc_len L
/-- a group's things lie in a row of their own -/
def OfAt (w : World) (B : Nat) (no : Nat → Prop) (x : GV) : Prop := ∃ b c, x.v = .slice (some ⟨b, 0, none⟩) x.of.length c ∧ RowAt w b 0 3 (nvals .i64 x.of) ∧ B ≤ b ∧ ¬ no b
theorem OfAt.kept {w w' : World} {B : Nat} {no no' : Nat → Prop} {x : GV} (h : OfAt w B no x) (hh : ∀ b, b < w.heap.size → ¬ no b → w'.heap[b]? = w.heap[b]?) (hn : ∀ b, b < w.heap.size → no' b → no b) : OfAt w' B no' x := by
  obtain ⟨b, c, h1, h2, h3, h4⟩ := h
  have hlt := h2.lt
  exact ⟨b, c, h1, h2.of_heap (hh b hlt h4), h3, fun h => h4 (hn b hlt h)⟩
def LensOk (C : List Nat) (n : Nat) (w : World) (e : Ending) (w' : World) : Prop := ∃ g, e = .returned (.tuple #[.slice (some ⟨g, 0, none⟩) n n, .nilIface]) ∧ RowAt w' g 0 3 (nvals .i64 (lens C)) ∧ w.heap.size ≤ g ∧ Below w.heap.size w w'
def atBlk (a : Option Addr) : Nat → Prop := fun b => ∃ y, a = some y ∧ y.block = b
theorem RowAt.new2 (w : World) (g : Nat) (hg : g = w.heap.size) (e : TypeId) (xs : List Value) : RowAt (w.alloc (.cells xs.toArray e)) g 0 e xs := by
  subst hg
  have := RowAt.new w e xs.toArray
  rwa [List.toList_toArray] at this
theorem pushGv {wr w' : World} {B n1 cap cap' k z : Nat} {a1 a' : Option Addr} {L1 : List GV} (hz : z ≤ 1125899906842624) (hk : k ≤ 1000) (hl : L1.length = n1) (ho : Owns wr B 121 3 a1 n1 cap (gvs L1)) (hf : ∀ x ∈ L1, OfAt wr B (atBlk a1) x) (hB : B ≤ wr.heap.size)
    (hown : Owns w' B 121 3 a' (n1 + 1) cap' (gvs L1 ++ [.int .i64 (z : Nat), .int .i64 (k : Nat), .slice (some ⟨wr.heap.size, 0, none⟩) 1 1])) (hg : (wr.alloc (.cells #[.int .i64 (k : Nat)] 3)).grownBy w' (blk a1))
    (hloc : ∀ x, a' = some x → a1 = some x ∨ (wr.alloc (.cells #[.int .i64 (k : Nat)] 3)).heap.size < x.block) :
    ∃ L2 : List GV, L2.length = n1 + 1 ∧ Owns w' B 121 3 a' (n1 + 1) cap' (gvs L2) ∧ (∀ x ∈ L2, OfAt w' B (atBlk a') x) ∧ L2.map GV.grp = L1.map GV.grp ++ [⟨z, k, [k]⟩] ∧ Below B wr w' := by
  have hsz : (wr.alloc (.cells #[.int .i64 (k : Nat)] 3)).heap.size = wr.heap.size + 1 := by simp
  have hblk : ∀ y, a1 = some y → y.block < wr.heap.size := ho.blk_lt
  have hnot : ∀ b, b < wr.heap.size + 1 → atBlk a' b → atBlk a1 b := by
    rintro b hb ⟨y, hy, rfl⟩
    rcases hloc y hy with h | h
    · exact ⟨y, h, rfl⟩
    · omega
  have hne : ∀ b, ¬ atBlk a1 b → some b ≠ blk a1 := by
    rintro b hb h
    cases ha : a1 with
    | none => rw [ha] at h; cases h
    | some y => rw [ha] at h; cases h; exact hb ⟨y, ha, rfl⟩
  have hfr : ∀ b, b < wr.heap.size + 1 → ¬ atBlk a1 b → w'.heap[b]? = (wr.alloc (.cells #[.int .i64 (k : Nat)] 3)).heap[b]? := fun b hb hn => hg.block b (by omega) (hne b hn)
  have hself : ¬ atBlk a1 wr.heap.size := by
    rintro ⟨y, hy, h⟩
    have := hblk y hy
    omega
  refine ⟨L1 ++ [⟨z, k, [k], .slice (some ⟨wr.heap.size, 0, none⟩) 1 1, hz, hk, rfl⟩], by simp [hl], ?_, ?_, by simp [GV.grp], ?_⟩
  · rw [gvs_append]; exact hown
  · intro x hx
    rw [List.mem_append, List.mem_singleton] at hx
    rcases hx with hx | rfl
    · exact (hf x hx).kept (fun b hb hn => (hfr b (by omega) hn).trans (Below.heap_alloc wr _ _ hb)) (fun b hb => hnot b (by omega))
    · refine ⟨wr.heap.size, 1, rfl, ?_, hB, fun h => hself (hnot _ (by omega) h)⟩
      exact (RowAt.new2 wr wr.heap.size rfl 3 [.int .i64 (k : Nat)]).of_heap (hfr _ (by omega) hself)
  · refine ((Below.refl B wr).alloc hB _).grown hg (by omega) fun j hj => ?_
    cases ha : a1 with
    | none => rw [ha] at hj; cases hj
    | some y =>
      rw [ha] at hj; cases hj
      subst ha
      exact ho.lt.1
/-- what is true when a round of the joining begins -/
structure LSt (B : Nat) (C F : List Nat) (o g off n cap made : Nat) (L : List GV) (D : List Nat) (w : World) : Prop where
  row : OwnsAt w B 121 3 g off n cap (gvs L)
  len : L.length = n
  of : ∀ x ∈ L, OfAt w B (fun b => b = g ∨ b = o) x
  out : RowAt w o 0 3 (nvals .i64 D)
  st : St C (leaves C).length (L.map GV.grp) made D
  fin : run n (L.map GV.grp) made D = F
  gne : g ≠ o
  base : B ≤ o
  cnt : made + n = 256 + (leaves C).length
def LRel (B : Nat) (C F : List Nat) (o : Nat) (w : World) (a : Option Addr) (n cap made : Nat) (wr : World) : Prop :=
  Below B w wr ∧ made + n ≤ 600 ∧ ((n ≤ 1 ∧ RowAt wr o 0 3 (nvals .i64 F)) ∨ (2 ≤ n ∧ ∃ g off L D, a = some ⟨g, off, none⟩ ∧ LSt B C F o g off n cap made L D wr))
def lenV (v : Value) : Nat := match v with | .slice _ n _ => n | _ => 0
/-- behind the sort: the first two, and the others -/
structure LSo (B : Nat) (C F : List Nat) (o g off m cap made : Nat) (x y : GV) (R : List GV) (bx cx bY cy : Nat) (D : List Nat) (w : World) : Prop where
  row : OwnsAt w B 121 3 g off (m + 2) cap (gvs (x :: y :: R))
  len : R.length = m
  of : ∀ z ∈ R, OfAt w B (fun b => b = g ∨ b = o) z
  xv : x.v = .slice (some ⟨bx, 0, none⟩) x.of.length cx
  yv : y.v = .slice (some ⟨bY, 0, none⟩) y.of.length cy
  xr : RowAt w bx 0 3 (nvals .i64 x.of)
  yr : RowAt w bY 0 3 (nvals .i64 y.of)
  out : RowAt w o 0 3 (nvals .i64 D)
  st : St C (leaves C).length (x.grp :: y.grp :: R.map GV.grp) made D
  fin : run (m + 1) (R.map GV.grp ++ [⟨x.n + y.n, made, x.of ++ y.of⟩]) (made + 1) (bump D (x.of ++ y.of)) = F
  gne : g ≠ o
  base : B ≤ o
  cnt : made + (m + 2) = 256 + (leaves C).length
theorem of_le (l : List Nat) (n : Nat) (hn : l.Nodup) (hl : ∀ i ∈ l, i < n) : l.length ≤ n := by
  have hp : l.Perm ((List.range n).filter fun i => decide (i ∈ l)) := by
    refine (List.perm_ext_iff_of_nodup hn (List.nodup_range.filter _)).2 fun i => ?_
    rw [List.mem_filter, List.mem_range, decide_eq_true_iff]
    exact ⟨fun h => ⟨hl i h, h⟩, fun h => h.2⟩
  rw [hp.length_eq]
  exact Nat.le_trans (List.length_filter_le _ _) (by simp)
theorem LSo.two_nodup {B : Nat} {C F : List Nat} {o g off m cap made : Nat} {x y : GV} {R : List GV} {bx cx bY cy : Nat} {D : List Nat} {w : World} (h : LSo B C F o g off m cap made x y R bx cx bY cy D w) : (x.of ++ y.of).Nodup ∧ ∀ i ∈ x.of ++ y.of, i < C.length := by
  have hnd := h.st.nodup
  simp only [List.flatMap_cons] at hnd
  rw [← List.append_assoc] at hnd
  refine ⟨(List.nodup_append.1 hnd).1, fun i hi => ?_⟩
  rw [List.mem_append] at hi
  rcases hi with hi | hi
  · exact (h.st.of_lt List.mem_cons_self i hi).1
  · exact (h.st.of_lt (List.mem_cons_of_mem _ List.mem_cons_self) i hi).1
theorem LSo.two_len {B : Nat} {C F : List Nat} {o g off m cap made : Nat} {x y : GV} {R : List GV} {bx cx bY cy : Nat} {D : List Nat} {w : World} (h : LSo B C F o g off m cap made x y R bx cx bY cy D w) (hC : C.length ≤ 256) : x.of.length + y.of.length ≤ 256 := by
  have := of_le _ _ h.two_nodup.1 h.two_nodup.2
  rw [List.length_append] at this
  omega
theorem LSt.sorted {B : Nat} {C F : List Nat} {o g off n cap made : Nat} {L L' : List GV} {D : List Nat} {w w' : World} (h : LSt B C F o g off n cap made L D w) (h2 : 2 ≤ n) (hp : L'.Perm L) (hs : (L'.map GV.grp).Pairwise (fun a b => a.le b = true))
    (hr : OwnsAt w' B 121 3 g off n cap (gvs L')) (hg : w.grownBy w' (some g)) : ∃ m x y R bx cx bY cy, n = m + 2 ∧ LSo B C F o g off m cap made x y R bx cx bY cy D w' := by
  have hl : L'.length = n := hp.length_eq.trans h.len
  have hof : ∀ z ∈ L', OfAt w' B (fun b => b = g ∨ b = o) z := fun z hz => (h.of z (hp.mem_iff.1 hz)).kept (fun b hb hn => hg.block b hb (fun e => hn (.inl (Option.some.inj e)))) (fun b _ h => h)
  have hst := h.st.perm (hp.map GV.grp).symm
  have hso : L'.map GV.grp = isort (L.map GV.grp) :=
    sorted_uniq _ _ ((hp.map GV.grp).trans (isort_perm _).symm) hs (isort_sorted _) hst.mades
  have hout : RowAt w' o 0 3 (nvals .i64 D) := h.out.of_heap (hg.block o h.out.lt (fun e => h.gne (Option.some.inj e).symm))
  match L', hl with
  | x :: y :: R, hl =>
    have hm : n = R.length + 2 := by simpa using hl.symm
    obtain ⟨bx, cx, x1, x2, x3, x4⟩ := hof x List.mem_cons_self
    obtain ⟨bY, cy, y1, y2, y3, y4⟩ := hof y (List.mem_cons_of_mem _ List.mem_cons_self)
    have hf := h.fin
    rw [hm, run_step (R.length + 1) (L.map GV.grp) made D x.grp y.grp (R.map GV.grp) (by rw [← hso]; rfl)] at hf
    refine ⟨R.length, x, y, R, bx, cx, bY, cy, hm, hm ▸ hr, rfl, fun z hz => hof z (List.mem_cons_of_mem _ (List.mem_cons_of_mem _ hz)), x1, y1, x2, y2, hout, hst, hf, h.gne, h.base, by have := h.cnt; omega⟩
  | [x], hl => simp at hl; omega
  | [], hl => simp at hl; omega
theorem nvals_ivals (l : List Nat) : nvals .i64 l = ivals (l.map fun n : Nat => (n : Int)) := by simp [nvals, ivals]
theorem RowAt.rdN {w : World} {b : Nat} {l : List Nat} (h : RowAt w b 0 3 (nvals .i64 l)) : RdI w (some ⟨b, 0, none⟩) (l.map fun n : Nat => (n : Int)) := by
  rw [nvals_ivals] at h
  exact h.readsI.rd
set_option maxRecDepth 100000 in
theorem cat_any (V : World) (b bx bY cx cy : Nat) (lx ly : List Nat) (hx : RowAt V bx 0 3 (nvals .i64 lx)) (hy : RowAt V bY 0 3 (nvals .i64 ly)) (hr : RowAt V b 0 34 [.slice (some ⟨bx, 0, none⟩) lx.length cx, .slice (some ⟨bY, 0, none⟩) ly.length cy]) (hl : lx.length + ly.length ≤ 100000) (h0 : lx ≠ []) :
    Calls Try.prog 78 #[.slice (some ⟨b, 0, none⟩) 2 2] V fun e w' => ∃ a c', e = .returned (.slice (some ⟨a, 0, none⟩) (lx.length + ly.length) c') ∧ RowAt w' a 0 3 (nvals .i64 (lx ++ ly)) ∧ V.heap.size ≤ a ∧ Below V.heap.size V w' := by
  have hc := Concat_i b 2 [⟨some ⟨bx, 0, none⟩, lx.length, cx, lx.map fun n : Nat => (n : Int)⟩, ⟨some ⟨bY, 0, none⟩, ly.length, cy, ly.map fun n : Nat => (n : Int)⟩] V rfl (by decide) hr (by
    intro s hs
    simp only [List.mem_cons, List.not_mem_nil, or_false] at hs
    rcases hs with rfl | rfl
    · exact ⟨hx.rdN.rdB, by simp, by simp⟩
    · exact ⟨hy.rdN.rdB, by simp, by simp⟩) (by simpa [sliTot] using hl)
  refine hc.mono ?_
  rintro e w' ⟨a, n, c', rfl, hn, ho, hb⟩
  have hn' : n = lx.length + ly.length := by rw [hn]; simp [sliTot]
  subst hn'
  have hcat : ivals (sliCat [⟨some ⟨bx, 0, none⟩, lx.length, cx, lx.map fun n : Nat => (n : Int)⟩, ⟨some ⟨bY, 0, none⟩, ly.length, cy, ly.map fun n : Nat => (n : Int)⟩]) = nvals .i64 (lx ++ ly) := by simp [sliCat, nvals, ivals, Function.comp_def]
  rw [hcat] at ho
  cases a with
  | none =>
    have := ho.of_none.1
    have := List.length_pos_iff.2 h0
    omega
  | some y =>
    obtain ⟨r1, r2, r3, r4, r5⟩ := ho.row
    refine ⟨y.block, c', by rw [← r1], r5, r2, hb⟩
/-- a region that reads the first two groups -/
def GS (g off : Nat) (nx ny : Nat) (vx vy : Value) (w0 w1 : World) : Prop :=
  w1.cell? ⟨g, off, none⟩ = some (.int .i64 (nx : Nat)) ∧ w1.cell? ⟨g, off + 2, none⟩ = some vx ∧ w1.cell? ⟨g, off + 3, none⟩ = some (.int .i64 (ny : Nat)) ∧ w1.cell? ⟨g, off + 3 + 2, none⟩ = some vy ∧ Below w0.heap.size w0 w1
theorem GS.step {g off : Nat} {nx ny : Nat} {vx vy : Value} {w0 w1 w2 : World} (h : GS g off nx ny vx vy w0 w1) (hg : g < w0.heap.size) (hb : Below w0.heap.size w1 w2) : GS g off nx ny vx vy w0 w2 := by
  obtain ⟨h1, h2, h3, h4, h5⟩ := h
  refine ⟨?_, ?_, ?_, ?_, h5.trans hb⟩
  · exact (hb.cell (p := ⟨g, off, none⟩) hg).trans h1
  · exact (hb.cell (p := ⟨g, off + 2, none⟩) hg).trans h2
  · exact (hb.cell (p := ⟨g, off + 3, none⟩) hg).trans h3
  · exact (hb.cell (p := ⟨g, off + 3 + 2, none⟩) hg).trans h4
theorem GS.drew {g off : Nat} {nx ny : Nat} {vx vy : Value} {w0 w1 : World} (h : GS g off nx ny vx vy w0 w1) (hg : g < w0.heap.size) : GS g off nx ny vx vy w0 w1.drew := h.step hg (Below.refl _ _).drew
theorem GS.alloc {g off : Nat} {nx ny : Nat} {vx vy : Value} {w0 w1 : World} (h : GS g off nx ny vx vy w0 w1) (hg : g < w0.heap.size) (o : Obj) : GS g off nx ny vx vy w0 (w1.alloc o) := h.step hg ((Below.refl _ _).alloc h.2.2.2.2.size o)
theorem GS.call {g off : Nat} {nx ny : Nat} {vx vy : Value} {w0 w1 w2 : World} (h : GS g off nx ny vx vy w0 w1) (hg : g < w0.heap.size) (hb : Below w1.heap.size w1 w2) : GS g off nx ny vx vy w0 w2 := h.step hg (hb.mono h.2.2.2.2.size)
theorem RowAt.drewR {w : World} {g o : Nat} {e : TypeId} {xs : List Value} (h : RowAt w g o e xs) : RowAt w.drew g o e xs := h
theorem bcell9 {W w1 : World} (hb : Below W.heap.size W w1) : (∀ b o, b < W.heap.size → w1.cell? ⟨b, o, none⟩ = W.cell? ⟨b, o, none⟩) ∧ (∀ b o, b < W.heap.size → w1.frozen? ⟨b, o, none⟩ = W.frozen? ⟨b, o, none⟩) :=
  ⟨fun b o h => hb.cell (p := ⟨b, o, none⟩) h, fun b o h => hb.frozen (p := ⟨b, o, none⟩) h⟩
/-- joined: where the new group lies -/
def LJo (x y : GV) (made b9 a9 c9 : Nat) (w2 wr : World) : Prop :=
  Below w2.heap.size w2 wr ∧ RowAt wr b9 0 121 [.int .i64 ((x.n + y.n : Nat) : Int), .int .i64 (made : Nat), .slice (some ⟨a9, 0, none⟩) (x.of.length + y.of.length) c9] ∧ RowAt wr a9 0 3 (nvals .i64 (x.of ++ y.of)) ∧ w2.heap.size ≤ a9 ∧ w2.heap.size ≤ b9 ∧ a9 ≠ b9
theorem LJo.late {x y : GV} {made a9 c9 : Nat} {w2 w9 : World} {v : Int} (hv : v = ((x.n + y.n : Nat) : Int)) (hr9 : RowAt w9 a9 0 3 (nvals .i64 (x.of ++ y.of))) (ha : w2.heap.size ≤ a9) (hb : Below w2.heap.size w2 w9) :
    LJo x y made w9.heap.size a9 c9 w2 (w9.alloc (.cells #[.int .i64 v, .int .i64 (made : Nat), .slice (some ⟨a9, 0, none⟩) (x.of.length + y.of.length) c9] 121)) := by
  subst hv
  have := hr9.lt
  exact ⟨hb.alloc hb.size _, RowAt.new2 _ _ rfl _ [_, _, _], hr9.alloc _, ha, hb.size, by omega⟩
theorem LJo.early {x y : GV} {made b9 a9 c9 : Nat} {w2 V w9 : World} {v : Int} {z0 z1 z2 : Value} (hv : v = ((x.n + y.n : Nat) : Int)) (hrow : RowAt V b9 0 121 [z0, z1, z2]) (hV : Below w2.heap.size w2 V) (hb9 : Below V.heap.size V w9) (h9 : w2.heap.size ≤ b9) (hr9 : RowAt w9 a9 0 3 (nvals .i64 (x.of ++ y.of))) (ha : V.heap.size ≤ a9) :
    LJo x y made b9 a9 c9 w2 (((w9.setCell ⟨b9, 0, none⟩ (.int .i64 v)).setCell ⟨b9, 1, none⟩ (.int .i64 (made : Nat))).setCell ⟨b9, 2, none⟩ (.slice (some ⟨a9, 0, none⟩) (x.of.length + y.of.length) c9)) := by
  subst hv
  have h1 := hrow.lt
  have h2 : RowAt w9 b9 0 121 [z0, z1, z2] := hrow.of_heap (hb9.block _ h1)
  have h3 := ((h2.set0 0 (by simp) (.int .i64 ((x.n + y.n : Nat) : Int))).set0 1 (by simp) (.int .i64 (made : Nat))).set0 2 (by simp) (.slice (some ⟨a9, 0, none⟩) (x.of.length + y.of.length) c9)
  refine ⟨(((hV.trans (hb9.mono hV.size)).setCell (p := ⟨b9, 0, none⟩) h9 _).setCell (p := ⟨b9, 1, none⟩) h9 _).setCell (p := ⟨b9, 2, none⟩) h9 _, h3, ?_, by have := hV.size; omega, h9, by omega⟩
  refine hr9.of_heap ?_
  rw [Below.heap_setCell _ _ _ _ (by show a9 ≠ b9; omega), Below.heap_setCell _ _ _ _ (by show a9 ≠ b9; omega), Below.heap_setCell _ _ _ _ (by show a9 ≠ b9; omega)]
theorem nvals_zero (n : Nat) : nvals .i64 (List.replicate n 0) = List.replicate n (.int .i64 0) := by simp [nvals]
theorem bump_snoc (D of : List Nat) (j : Nat) (h : j < of.length) : bump D (of.take (j + 1)) = (bump D (of.take j)).set (of.getD j 0) ((bump D (of.take j)).getD (of.getD j 0) 0 + 1) := by
  unfold bump
  rw [List.take_succ_eq_append_getElem h, List.foldl_append, List.getD_eq_getElem?_getD (l := of), List.getElem?_eq_getElem h]
  rfl
theorem LSo.a9_ne {B : Nat} {C F : List Nat} {o g off m cap made : Nat} {x y : GV} {R : List GV} {bx cx bY cy : Nat} {D : List Nat} {w w' : World} {b9 a9 c9 made' : Nat} {x' y' : GV} (h : LSo B C F o g off m cap made x y R bx cx bY cy D w) (hj : LJo x' y' made' b9 a9 c9 w w') : a9 ≠ o := by
  have := h.out.lt
  have := hj.2.2.2.1
  omega
theorem LSo.small {B : Nat} {C F : List Nat} {o g off m cap made : Nat} {x y : GV} {R : List GV} {bx cx bY cy : Nat} {D : List Nat} {w : World} (h : LSo B C F o g off m cap made x y R bx cx bY cy D w) (hC : C.length ≤ 256) (j i : Nat) : (bump D ((x.of ++ y.of).take j)).getD i 0 ≤ 257 := by
  have hl := h.st.len
  have hd := h.st.deep i
  have ht := leaves_length C
  have ht2 := some_le C
  simp only [List.length_cons] at hd
  rw [bump_get _ _ (h.two_nodup.1.sublist (List.take_sublist _ _)) (fun k hk => by rw [hl]; exact h.two_nodup.2 k (List.mem_of_mem_take hk))]
  split <;> omega
theorem OwnsAt.rest {w : World} {B g off n cap : Nat} {x y : GV} {R : List GV} (h : OwnsAt w B 121 3 g off n cap (gvs (x :: y :: R))) (hn : 2 ≤ n) :
    ∃ off2, (if cap = 2 then some (⟨g, off, none⟩ : Addr) else some ⟨g, off + 6, none⟩) = some ⟨g, off2, none⟩ ∧ Hid (OwnsAt w B 121 3 g off2 (n - 2) (cap - 2) (gvs R)) := by
  have hd := h.drop 2 hn
  have hg : (gvs (x :: y :: R)).drop (2 * 3) = gvs R := rfl
  rw [hg] at hd
  by_cases hc : cap = 2
  · have hle := h.le
    refine ⟨off, by rw [if_pos hc], Lib.hid ?_⟩
    obtain ⟨cur, h1, h2, h3⟩ := hd.row
    have hl := hd.len
    have h0 : (gvs R).length = 0 := by rw [hl, show n - 2 = 0 from by omega]
    obtain ⟨cur0, k1, k2, k3⟩ := h.row
    refine ⟨hd.len, hd.base, hd.le, hd.max, cur0, k1, by rw [hc] at k2 ⊢; omega, fun i hi => by omega⟩
  · exact ⟨off + 2 * 3, by rw [if_neg hc], Lib.hid hd⟩
theorem OwnsAt.drewA {w : World} {B : Nat} {e : TypeId} {size g off n cap : Nat} {xs : List Value} (h : OwnsAt w B e size g off n cap xs) : OwnsAt w.drew B e size g off n cap xs := ⟨h.len, h.base, h.le, h.max, h.row⟩
theorem sum_bound (C : List Nat) (K : Nat) (h : ∀ i, i < C.length → C.getD i 0 ≤ K) : C.sum ≤ C.length * K := by
  induction C with
  | nil => simp
  | cons c C ih =>
    have h0 := h 0 (by simp)
    have h1 := ih fun i hi => by have := h (i + 1) (by simp; omega); simpa using this
    simp only [List.sum_cons, List.length_cons, Nat.succ_mul]
    have : c ≤ K := by simpa using h0
    omega
theorem LSo.next {B : Nat} {C F : List Nat} {o g off m cap made : Nat} {x y : GV} {R : List GV} {bx cx bY cy : Nat} {D : List Nat} {w w2 wc wr w4 : World} {b9 a9 c9 q n3 g4 off4 cap4 : Nat} {ob : Obj}
    (h : LSo B C F o g off m cap made x y R bx cx bY cy D w2) (hC : C.length ≤ 256) (hCs : ∀ i, i < C.length → C.getD i 0 ≤ 1099511627776) (hb : Below B w w2) (hj : LJo x y made b9 a9 c9 w2 wc) (hg : wc.grownBy wr (some o))
    (hout : RowAt wr o 0 3 (nvals .i64 (bump D (x.of ++ y.of)))) (hown : OwnsAt w4 B 121 3 g4 off4 (n3 - 2 + 1) cap4 (gvs R ++ [.int .i64 ((x.n : Int) + (y.n : Int)), .int .i64 (made : Nat), .slice (some ⟨a9, 0, none⟩) q c9])) (hq : q = x.of.length + y.of.length) (hn3 : n3 = m + 2)
    (hgr : ((wr.alloc ob).drew).grownBy w4 (some g)) (hloc : g4 = g ∨ ((wr.alloc ob).drew).heap.size ≤ g4) (hcnt : made + n3 ≤ 600) (hBw : B ≤ w2.heap.size) :
    LRel B C F o w (some ⟨g4, off4, none⟩) (n3 - 2 + 1) cap4 (made + 1) w4 := by
  have hgl := h.row.lt
  have hol := h.out.lt
  have hgo := h.gne
  have z1 := hj.1.size
  have z2 := hg.size
  have z3 : ((wr.alloc ob).drew).heap.size = wr.heap.size + 1 := by simp
  rw [z3] at hloc
  have hn : n3 - 2 + 1 = m + 1 := by omega
  have f4 : ∀ b, b < wr.heap.size → b ≠ g → w4.heap[b]? = wr.heap[b]? := fun b hb hne =>
    (hgr.block b (by rw [z3]; omega) (fun e => hne (Option.some.inj e))).trans (Below.heap_alloc wr ob b hb)
  have f3 : ∀ b, b < wc.heap.size → b ≠ o → wr.heap[b]? = wc.heap[b]? := fun b hb hne => hg.block b hb (fun e => hne (Option.some.inj e))
  have ha9 := h.a9_ne hj
  have ha9l := hj.2.2.1.lt
  have ha9g := hj.2.2.2.1
  have hbel : Below B w w4 := by
    have h1 : Below B w wc := hb.trans (hj.1.mono hBw)
    have h2 : Below B w wr := h1.grown hg (by omega) (fun k hk => by cases hk; exact h.base)
    exact ((h2.alloc (by omega) ob).drew).grown hgr (by rw [z3]; omega) (fun k hk => by cases hk; exact h.row.base)
  have hnew : x.n + y.n ≤ 1125899906842624 := by
    have h1 := h.st.sum x.grp List.mem_cons_self
    have h2 := h.st.sum y.grp (List.mem_cons_of_mem _ List.mem_cons_self)
    have h3 := part_sum C (x.of ++ y.of) h.two_nodup.1 h.two_nodup.2
    have h4 := sum_bound C _ hCs
    rw [List.map_append, List.sum_append] at h3
    have h5 : C.length * 1099511627776 ≤ 256 * 1099511627776 := Nat.mul_le_mul_right _ hC
    have h1' : (x.of.map fun i => C.getD i 0).sum = x.n := h1
    have h2' : (y.of.map fun i => C.getD i 0).sum = y.n := h2
    omega
  have hout4 : RowAt w4 o 0 3 (nvals .i64 (bump D (x.of ++ y.of))) := hout.of_heap (f4 o (by omega) (Ne.symm hgo))
  have hT : (leaves C).length ≤ 256 := by have := leaves_length C; have := some_le C; omega
  refine ⟨hbel, by omega, ?_⟩
  rw [hn] at hown ⊢
  have hfin := h.fin
  rcases Nat.eq_zero_or_pos m with hm | hm
  · left
    refine ⟨by omega, ?_⟩
    have hR : R = [] := List.eq_nil_of_length_eq_zero (h.len.trans hm)
    rw [run_short _ _ _ _ (by rw [hR]; simp)] at hfin
    rw [← hfin]; exact hout4
  · right
    have hlen := h.len
    refine ⟨by omega, g4, off4, R ++ [⟨x.n + y.n, made, x.of ++ y.of, .slice (some ⟨a9, 0, none⟩) q c9, hnew, by omega, rfl⟩], bump D (x.of ++ y.of), rfl, ?_⟩
    have hmap : (R ++ [(⟨x.n + y.n, made, x.of ++ y.of, .slice (some ⟨a9, 0, none⟩) q c9, hnew, by omega, rfl⟩ : GV)]).map GV.grp = R.map GV.grp ++ [⟨x.n + y.n, made, x.of ++ y.of⟩] := by simp [GV.grp]
    refine ⟨by rw [gvs_append]; exact hown, by simp [hlen], ?_, hout4, by rw [hmap]; exact h.st.step hT, by rw [hmap]; exact hfin, ?_, h.base, by have := h.cnt; omega⟩
    · intro z hz
      rw [List.mem_append, List.mem_singleton] at hz
      rcases hz with hz | rfl
      · obtain ⟨b, c, q1, q2, q3, q4⟩ := h.of z hz
        have hbl := q2.lt
        have hbg : b ≠ g := fun e => q4 (.inl e)
        have hbo : b ≠ o := fun e => q4 (.inr e)
        refine ⟨b, c, q1, q2.of_heap ?_, q3, fun hh => ?_⟩
        · rw [f4 b (by omega) hbg, f3 b (by omega) hbo]; exact hj.1.block b hbl
        · rcases hh with hh | hh
          · rcases hloc with hl | hl
            · exact hbg (hh.trans hl)
            · omega
          · exact hbo hh
      · refine ⟨a9, c9, by rw [hq]; simp, hj.2.2.1.of_heap ?_, by omega, fun hh => ?_⟩
        · rw [f4 a9 (by omega) (by omega), f3 a9 ha9l ha9]
        · rcases hh with hh | hh
          · rcases hloc with hl | hl <;> omega
          · exact ha9 hh
    · rcases hloc with hl | hl
      · rw [hl]; exact hgo
      · omega
end Go.Proofs.Ytenhblpegobbjaa
