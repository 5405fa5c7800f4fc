/- Contract of suffix.Sort. -/
import Derived.Test.YtenhblpegobbjaaSufD
import Derived.Test.YtenhblpegobbjaaMakeC
import Derived.Test.YtenhblpegobbjaaConcatI
import Derived.Deep.DeepCutAuto
import Derived.Deep.CutBlock
import Derived.Laws.EntriesVeiled
import Derived.Deep.RegionHeld3
namespace Go.Proofs.Ytenhblpegobbjaa
open Go.RowKit
set_option linter.unusedVariables false
set_option linter.unusedSimpArgs false
open Suf
/-- the rows of Sort, just made -/
structure Mk4 (w wr : World) (n nb ga cb gr gx : Nat) (z : List Value) : Prop where
  rn : RowAt wr nb 0 3 [.int .i64 (n : Nat)]
  ra : RowAt wr ga 0 3 z
  rr : RowAt wr gr 0 3 z
  rx : RowAt wr gx 0 3 z
  rc : RowAt wr cb 0 34 [.slice (some ⟨gr, 0, none⟩) n n]
  apart : [nb, ga, cb, gr, gx].Pairwise (· ≠ ·)
  low : ∀ x ∈ [nb, ga, cb, gr, gx], w.heap.size ≤ x
  grew : Grew w wr
/-- a list, filled up to a place -/
def fillN (full : List Nat) (k : Nat) : List Nat := full.take k ++ List.replicate (full.length - k) 0
theorem fillN_length (full : List Nat) (k : Nat) (h : k ≤ full.length) : (fillN full k).length = full.length := by simp [fillN]; omega
theorem fillN_zero (full : List Nat) : fillN full 0 = List.replicate full.length 0 := by simp [fillN]
theorem fillN_full (full : List Nat) : fillN full full.length = full := by simp [fillN]
theorem fillN_step (full : List Nat) (k : Nat) (h : k < full.length) : (fillN full k).set k (full.getD k 0) = fillN full (k + 1) := by
  unfold fillN
  rw [List.set_append_right _ _ (by simp; omega), List.length_take, show k - min k full.length = 0 by omega, show full.length - k = (full.length - (k + 1)) + 1 by omega, List.replicate_succ, List.set_cons_zero, List.take_succ_eq_append_getElem h, List.append_assoc, List.getD_eq_getElem?_getD, List.getElem?_eq_getElem h]
  rfl
/-- the rows of Sort -/
structure SS (w wr : World) (n nb ga cb gr gx : Nat) (A R X : List Nat) : Prop where
  rn : RowAt wr nb 0 3 [.int .i64 (n : Nat)]
  ra : RowAt wr ga 0 3 (nvals .i64 A)
  rr : RowAt wr gr 0 3 (nvals .i64 R)
  rx : RowAt wr gx 0 3 (nvals .i64 X)
  rc : RowAt wr cb 0 34 [.slice (some ⟨gr, 0, none⟩) n n]
  lenA : A.length = n
  lenR : R.length = n
  lenX : X.length = n
  apart : [nb, ga, cb, gr, gx].Pairwise (· ≠ ·)
  low : ∀ x ∈ [nb, ga, cb, gr, gx], w.heap.size ≤ x
  below : Below w.heap.size w wr
theorem SS.ne {w wr : World} {n nb ga cb gr gx : Nat} {A R X : List Nat} (h : SS w wr n nb ga cb gr gx A R X) : nb ≠ ga ∧ nb ≠ cb ∧ nb ≠ gr ∧ nb ≠ gx ∧ ga ≠ cb ∧ ga ≠ gr ∧ ga ≠ gx ∧ cb ≠ gr ∧ cb ≠ gx ∧ gr ≠ gx := by
  have := h.apart
  simp at this
  omega
theorem SS.setA {w wr : World} {n nb ga cb gr gx : Nat} {A R X : List Nat} (h : SS w wr n nb ga cb gr gx A R X) (i v : Nat) (hi : i < n) : SS w (wr.setCell ⟨ga, i, none⟩ (.int .i64 (v : Nat))) n nb ga cb gr gx (A.set i v) R X := by
  obtain ⟨h1, h2, h3, h4, h5, h6, h7, h8, h9, h10⟩ := h.ne
  exact ⟨h.rn.far h1 _, by have := h.ra.setNum i v (by rw [h.lenA]; exact hi); exact this, h.rr.far (Ne.symm h6) _, h.rx.far (Ne.symm h7) _, h.rc.far (Ne.symm h5) _, by rw [List.length_set]; exact h.lenA, h.lenR, h.lenX, h.apart, h.low, h.below.setCell (p := ⟨ga, i, none⟩) (h.low ga (by simp)) _⟩
theorem SS.setR {w wr : World} {n nb ga cb gr gx : Nat} {A R X : List Nat} (h : SS w wr n nb ga cb gr gx A R X) (i v : Nat) (hi : i < n) : SS w (wr.setCell ⟨gr, i, none⟩ (.int .i64 (v : Nat))) n nb ga cb gr gx A (R.set i v) X := by
  obtain ⟨h1, h2, h3, h4, h5, h6, h7, h8, h9, h10⟩ := h.ne
  exact ⟨h.rn.far h3 _, h.ra.far h6 _, by have := h.rr.setNum i v (by rw [h.lenR]; exact hi); exact this, h.rx.far (Ne.symm h10) _, h.rc.far h8 _, h.lenA, by rw [List.length_set]; exact h.lenR, h.lenX, h.apart, h.low, h.below.setCell (p := ⟨gr, i, none⟩) (h.low gr (by simp)) _⟩
theorem SS.setX {w wr : World} {n nb ga cb gr gx : Nat} {A R X : List Nat} (h : SS w wr n nb ga cb gr gx A R X) (i v : Nat) (hi : i < n) : SS w (wr.setCell ⟨gx, i, none⟩ (.int .i64 (v : Nat))) n nb ga cb gr gx A R (X.set i v) := by
  obtain ⟨h1, h2, h3, h4, h5, h6, h7, h8, h9, h10⟩ := h.ne
  exact ⟨h.rn.far h4 _, h.ra.far h7 _, h.rr.far h10 _, by have := h.rx.setNum i v (by rw [h.lenX]; exact hi); exact this, h.rc.far h9 _, h.lenA, h.lenR, by rw [List.length_set]; exact h.lenX, h.apart, h.low, h.below.setCell (p := ⟨gx, i, none⟩) (h.low gx (by simp)) _⟩
theorem SS.drew {w wr : World} {n nb ga cb gr gx : Nat} {A R X : List Nat} (h : SS w wr n nb ga cb gr gx A R X) : SS w wr.drew n nb ga cb gr gx A R X :=
  ⟨h.rn.drew, h.ra.drew, h.rr.drew, h.rx.drew, h.rc.drew, h.lenA, h.lenR, h.lenX, h.apart, h.low, h.below.drew⟩
theorem SS.grew {w wr w' : World} {n nb ga cb gr gx : Nat} {A R X : List Nat} (h : SS w wr n nb ga cb gr gx A R X) (hg : Grew wr w') : SS w w' n nb ga cb gr gx A R X :=
  ⟨hg.row h.rn, hg.row h.ra, hg.row h.rr, hg.row h.rx, hg.row h.rc, h.lenA, h.lenR, h.lenX, h.apart, h.low, h.below.trans (hg.below.mono h.below.size)⟩
theorem SS.fill0 {w wr : World} {nb ga cb gr gx : Nat} {X : List Nat} (l : List UInt8) (h : SS w wr l.length nb ga cb gr gx (List.replicate l.length 0) (List.replicate l.length 0) X) : SS w wr l.length nb ga cb gr gx (fillN (List.range l.length) 0) (fillN (l.map (·.toNat)) 0) X := by
  rw [fillN_zero, fillN_zero, List.length_range, List.length_map]; exact h
theorem Mk4.ss {w wr : World} {n nb ga cb gr gx : Nat} {z : List Value} (h : Mk4 w wr n nb ga cb gr gx z) (hz : z = nvals .i64 (List.replicate n 0)) : SS w wr n nb ga cb gr gx (List.replicate n 0) (List.replicate n 0) (List.replicate n 0) := by
  subst hz
  exact ⟨h.rn, h.ra, h.rr, h.rx, h.rc, by simp, by simp, by simp, h.apart, h.low, h.grew.below⟩
/-- what Sort holds in a round -/
structure KR (w wr : World) (l : List UInt8) (nb ga cb gr gx kb k : Nat) (A R X : List Nat) : Prop where
  ss : SS w wr l.length nb ga cb gr gx A R X
  rk : RowAt wr kb 0 3 [.int .i64 (k : Nat)]
  ne : nb ≠ kb ∧ ga ≠ kb ∧ cb ≠ kb ∧ gr ≠ kb ∧ gx ≠ kb
  rank : RankOk l k R
  hk : k = 1 ∨ k < l.length
  k1 : 0 < k
  perm : A.Perm (List.range l.length)
  small : ∀ i, R.getD i 0 ≤ 100000
/-- .. with the key's closure -/
structure KQ (w wr : World) (l : List UInt8) (nb ga cb gr gx kb fb k : Nat) (A R X : List Nat) : Prop where
  kr : KR w wr l nb ga cb gr gx kb k A R X
  rf : RowAt wr fb 0 132 [.func (.func 86) #[] #[.pointer (some ⟨kb, 0, none⟩), .pointer (some ⟨nb, 0, none⟩), .pointer (some ⟨cb, 0, none⟩)]]
  nf : nb ≠ fb ∧ ga ≠ fb ∧ cb ≠ fb ∧ gr ≠ fb ∧ gx ≠ fb ∧ kb ≠ fb
theorem KR.key {w wr : World} {l : List UInt8} {nb ga cb gr gx kb k : Nat} {A R X : List Nat} (h : KR w wr l nb ga cb gr gx kb k A R X) (h4 : l.length ≤ 4000) : KeyAt wr kb nb cb gr k l R :=
  ⟨h.rk, h.ss.rn, h.ss.rc, h.ss.rr, h.ss.lenR, h.small, by have := h.hk; omega, h4⟩
theorem KR.grew {w wr w' : World} {l : List UInt8} {nb ga cb gr gx kb k : Nat} {A R X : List Nat} (h : KR w wr l nb ga cb gr gx kb k A R X) (hg : Grew wr w') : KR w w' l nb ga cb gr gx kb k A R X :=
  ⟨h.ss.grew hg, hg.row h.rk, h.ne, h.rank, h.hk, h.k1, h.perm, h.small⟩
theorem KQ.grew {w wr w' : World} {l : List UInt8} {nb ga cb gr gx kb fb k : Nat} {A R X : List Nat} (h : KQ w wr l nb ga cb gr gx kb fb k A R X) (hg : Grew wr w') : KQ w w' l nb ga cb gr gx kb fb k A R X :=
  ⟨h.kr.grew hg, hg.row h.rf, h.nf⟩
theorem KQ.setX {w wr : World} {l : List UInt8} {nb ga cb gr gx kb fb k : Nat} {A R X : List Nat} (h : KQ w wr l nb ga cb gr gx kb fb k A R X) (i v : Nat) (hi : i < l.length) : KQ w (wr.setCell ⟨gx, i, none⟩ (.int .i64 (v : Nat))) l nb ga cb gr gx kb fb k A R (X.set i v) :=
  ⟨⟨h.kr.ss.setX i v hi, h.kr.rk.far (Ne.symm h.kr.ne.2.2.2.2) _, h.kr.ne, h.kr.rank, h.kr.hk, h.kr.k1, h.kr.perm, h.kr.small⟩, h.rf.far (Ne.symm h.nf.2.2.2.2.1) _, h.nf⟩
theorem KQ.sorted {w wr w' : World} {l : List UInt8} {nb ga cb gr gx kb fb k : Nat} {A A' R X : List Nat} (h : KQ w wr l nb ga cb gr gx kb fb k A R X) (hp : A'.Perm (List.range l.length)) (hr : RowAt w' ga 0 3 (nvals .i64 A')) (hg : wr.grownBy w' (some ga)) : KQ w w' l nb ga cb gr gx kb fb k A' R X := by
  obtain ⟨h1, h2, h3, h4, h5, h6, h7, h8, h9, h10⟩ := h.kr.ss.ne
  obtain ⟨m1, m2, m3, m4, m5⟩ := h.kr.ne
  obtain ⟨f1, f2, f3, f4, f5, f6⟩ := h.nf
  have hb : ∀ x, x < wr.heap.size → x ≠ ga → w'.heap[x]? = wr.heap[x]? := fun x hx hne => hg.block x hx (by intro e; injection e with e; exact hne e)
  exact ⟨⟨⟨h.kr.ss.rn.of_heap (hb _ h.kr.ss.rn.lt h1), hr, h.kr.ss.rr.of_heap (hb _ h.kr.ss.rr.lt (Ne.symm h6)), h.kr.ss.rx.of_heap (hb _ h.kr.ss.rx.lt (Ne.symm h7)), h.kr.ss.rc.of_heap (hb _ h.kr.ss.rc.lt (Ne.symm h5)), by rw [hp.length_eq, List.length_range], h.kr.ss.lenR, h.kr.ss.lenX, h.kr.ss.apart, h.kr.ss.low, h.kr.ss.below.grown hg h.kr.ss.below.size (fun x e => by cases e; exact h.kr.ss.low ga (by simp))⟩,
    h.kr.rk.of_heap (hb _ h.kr.rk.lt (Ne.symm m2)), h.kr.ne, h.kr.rank, h.kr.hk, h.kr.k1, hp, h.kr.small⟩, h.rf.of_heap (hb _ h.rf.lt (Ne.symm f2)), h.nf⟩
def kof (w : World) (v : Value) : Nat := match v with
  | .pointer (some a) => (match w.cell? a with | some (.int _ k) => k.toNat | _ => 0)
  | _ => 0
theorem PSn.of {V w1 : World} {fb : Nat} {F : Value} (cf : V.cell? ⟨fb, 0, none⟩ = some F) (hf : fb < V.heap.size) (h : Grew V w1) : w1.cell? ⟨fb, 0, none⟩ = some F ∧ Grew V w1 := by
  refine ⟨?_, h⟩
  unfold World.cell? at cf ⊢
  rw [h.heap fb hf]
  exact cf
theorem perm_inj {A : List Nat} {n : Nat} (hp : A.Perm (List.range n)) {x y : Nat} (hx : x < n) (hy : y < n) (e : A.getD x 0 = A.getD y 0) : x = y := by
  have hl : A.length = n := by rw [hp.length_eq, List.length_range]
  have hnd : A.Nodup := hp.nodup_iff.2 List.nodup_range
  have hx' : x < A.length := by omega
  have hy' : y < A.length := by omega
  rw [List.getD_eq_getElem?_getD, List.getElem?_eq_getElem hx', List.getD_eq_getElem?_getD, List.getElem?_eq_getElem hy'] at e
  have e' : A[x] = A[y] := e
  rcases Nat.lt_trichotomy x y with h | h | h
  · exact absurd e' (List.pairwise_iff_getElem.1 hnd x y hx' hy' h)
  · exact h
  · exact absurd e'.symm (List.pairwise_iff_getElem.1 hnd y x hy' hx' h)
theorem set_cnt {A X : List Nat} {n x i : Nat} {C : Nat → Nat} (hp : A.Perm (List.range n)) (hx : x < n) (hX : X.length = n) (hi : i = A.getD x 0) (hin : i < n) (H : ∀ y, y < x → X.getD (A.getD y 0) 0 = C y) : ∀ y, y < x + 1 → (X.set i (C x)).getD (A.getD y 0) 0 = C y := by
  intro y hy
  by_cases e : y = x
  · subst e
    rw [← hi, List.getD_eq_getElem?_getD, List.getElem?_set_self (by omega)]; rfl
  · have hne : i ≠ A.getD y 0 := by
      rw [hi]
      intro h
      exact e (perm_inj hp (by omega) hx h.symm)
    rw [List.getD_eq_getElem?_getD, List.getElem?_set_ne hne, ← List.getD_eq_getElem?_getD]
    exact H y (by omega)
theorem cnt_small {A X : List Nat} {n : Nat} {g : Nat → Nat} (hp : A.Perm (List.range n)) (hX : X.length = n) (hn : n ≤ 4000) (H : ∀ y, y < n → X.getD (A.getD y 0) 0 = cnt g A y) (i : Nat) : X.getD i 0 ≤ 100000 := by
  by_cases hi : i < n
  · have hm : i ∈ A := hp.mem_iff.2 (List.mem_range.2 hi)
    obtain ⟨y, hy, e⟩ := List.getElem_of_mem hm
    have hl : A.length = n := by rw [hp.length_eq, List.length_range]
    have e2 : A.getD y 0 = i := by rw [List.getD_eq_getElem?_getD, List.getElem?_eq_getElem hy]; exact e
    have h := H y (by omega)
    rw [e2] at h
    rw [h]
    have := cnt_le g A y
    omega
  · rw [List.getD_eq_getElem?_getD, List.getElem?_eq_none (by omega)]; simp
theorem SS.swap {w wr : World} {n nb ga cb gr gx : Nat} {A R X : List Nat} (h : SS w wr n nb ga cb gr gx A R X) : SS w (wr.setCell ⟨cb, 0, none⟩ (.slice (some ⟨gx, 0, none⟩) n n)) n nb ga cb gx gr A X R := by
  obtain ⟨h1, h2, h3, h4, h5, h6, h7, h8, h9, h10⟩ := h.ne
  refine ⟨h.rn.far h2 _, h.ra.far h5 _, h.rx.far (Ne.symm h9) _, h.rr.far (Ne.symm h8) _, ?_, h.lenA, h.lenX, h.lenR, ?_, ?_, h.below.setCell (p := ⟨cb, 0, none⟩) (h.low cb (by simp)) _⟩
  · have := h.rc.set0 0 (by simp) (.slice (some ⟨gx, 0, none⟩) n n)
    exact this
  · simp
    omega
  · intro x hx
    refine h.low x ?_
    simp at hx ⊢
    omega
theorem KQ.next {w wr : World} {l : List UInt8} {nb ga cb gr gx kb fb k : Nat} {A R X : List Nat} (h : KQ w wr l nb ga cb gr gx kb fb k A R X) (hr : RankOk l (2 * k) X) (h2 : 2 * k < l.length) (hs : ∀ i, X.getD i 0 ≤ 100000) (kc : Nat) (W : World) (hW : W = (wr.setCell ⟨cb, 0, none⟩ (.slice (some ⟨gx, 0, none⟩) l.length l.length)).alloc (Obj.cells #[.int .i64 (2 * (k : Int))] 3)) (hkc : kc = wr.heap.size) : KR w W l nb ga cb gx gr kc (2 * k) A X R := by
  subst hW hkc
  have hz : (wr.setCell ⟨cb, 0, none⟩ (.slice (some ⟨gx, 0, none⟩) l.length l.length)).heap.size = wr.heap.size := by simp [World.setCell]
  have hkr := RowAt.new' (wr.setCell ⟨cb, 0, none⟩ (.slice (some ⟨gx, 0, none⟩) l.length l.length)) wr.heap.size hz.symm 3 #[.int .i64 (2 * (k : Int))]
  have e : (2 * (k : Int)) = ((2 * k : Nat) : Int) := by omega
  rw [e] at hkr ⊢
  refine ⟨h.kr.ss.swap.grew ((Grew.refl _).alloc _), hkr, ?_, hr, .inr h2, by have := h.kr.k1; omega, h.kr.perm, hs⟩
  have a1 := h.kr.ss.rn.lt; have a2 := h.kr.ss.ra.lt; have a3 := h.kr.ss.rc.lt; have a4 := h.kr.ss.rr.lt; have a5 := h.kr.ss.rx.lt
  omega
theorem KR.kof {w wr : World} {l : List UInt8} {nb ga cb gr gx kb k : Nat} {A R X : List Nat} (h : KR w wr l nb ga cb gr gx kb k A R X) : kof wr (.pointer (some ⟨kb, 0, none⟩)) = k := by
  have hc := h.rk.cell0 0 (by simp)
  simp only [List.getElem_cons_zero] at hc
  unfold Go.Proofs.Ytenhblpegobbjaa.kof
  simp only [hc, Int.toNat_natCast]
theorem PSm.of {V w1 : World} {fb ga x : Nat} {F J : Value} (cf : V.cell? ⟨fb, 0, none⟩ = some F) (cj : V.cell? ⟨ga, x, none⟩ = some J) (hf : fb < V.heap.size) (hg : ga < V.heap.size) (h : Grew V w1) : w1.cell? ⟨fb, 0, none⟩ = some F ∧ w1.cell? ⟨ga, x, none⟩ = some J ∧ Grew V w1 := by
  refine ⟨?_, ?_, h⟩
  · unfold World.cell? at cf ⊢
    rw [h.heap fb hf]
    exact cf
  · unfold World.cell? at cj ⊢
    rw [h.heap ga hg]
    exact cj
set_option maxRecDepth 100000 in
set_option maxHeartbeats 4000000 in
theorem Sort_any (HC : CmpIs) (l : List UInt8) (w : World) (h4 : l.length ≤ 4000) :
    Calls Try.prog 44 #[.string (bstr l)] w fun e w' => ∃ g A, e = .returned (.tuple #[.slice (some ⟨g, 0, none⟩) l.length l.length, .nilIface]) ∧ Sorted l A ∧ RowAt w' g 0 3 (nvals .i64 A) ∧ w.heap.size ≤ g ∧ Below w.heap.size w w' := by
  have hd : decide ((4000 : Int) < (l.length : Int)) = false := decide_eq_false (by omega)
  have hdn : decide (4000 < l.length) = false := decide_eq_false (by omega)
  have hz : ∀ V, (zeroValue 3).run Try.prog V = .ok (.int .i64 0) V := fun V => by kernel_rfl
  obtain ⟨i0, hi, hz0, hz1, hz2⟩ := info_parts infoI64
  have hmk : ∀ V : World, (Instr.makeSlice 34 (.int .i64 (l.length : Nat)) (.int .i64 (l.length : Nat))).run Try.prog V = .ok (.slice (some ⟨V.heap.size, 0, none⟩) l.length l.length) (V.alloc (.cells (madeCells (Value.int .i64 0).cells l.length) 3)) := by
    intro V
    have h := run_make (P := Try.prog) V 34 3 i0 (.int .i64 0) Try.underlying34 hi hz0 .i64 .i64 (l.length : Nat) (l.length : Nat) (by omega) (by omega) (by rw [hz2, show ((8 : Nat) : Int) = 8 from rfl]; omega) (by omega)
    rw [hz1, Nat.mul_one, Int.toNat_natCast] at h
    exact h
  have hzs : ∀ V, (zeroValue 34).run Try.prog V = .ok (.slice none 0 0) V := fun V => by kernel_rfl
  go_enter Try.func44, Try.ntmps44
  go_wp2_with fail
  obtain ⟨nb, hnb⟩ : ∃ nb, nb = w.heap.size := ⟨_, rfl⟩
  obtain ⟨w1, hw1⟩ : ∃ w1, w1 = w.alloc (Obj.cells #[.int .i64 (l.length : Nat)] 3) := ⟨_, rfl⟩
  rw [← hnb, ← hw1]
  have hg1 : Grew w w1 := by rw [hw1]; exact (Grew.refl w).alloc _
  have hr1 : RowAt w1 nb 0 3 [.int .i64 (l.length : Nat)] := by rw [hw1]; exact RowAt.new' w nb hnb _ _
  have hsz : w1.heap.size = nb + 1 := by rw [hw1, World.size_alloc, hnb]
  have HG1 := Lib.hid hg1; have HR1 := Lib.hid hr1; have HNB := Lib.hid hnb; have HSZ := Lib.hid hsz
  obtain ⟨z, hzz⟩ : ∃ z, z = (madeCells (Value.int .i64 0).cells l.length) := ⟨_, rfl⟩
  rw [← hzz] at hmk
  have HZZ := Lib.hid hzz
  clear hg1 hr1 hnb hw1 hsz hzz
  go_upto_region 4 with fail
  go_cut [5, 6, 7] from 20 to 25 (fun v5 v6 v7 wr => ∃ ga cb gr gx, v5 = .slice (some ⟨ga, 0, none⟩) l.length l.length ∧ v6 = .pointer (some ⟨cb, 0, none⟩) ∧ v7 = .slice (some ⟨gx, 0, none⟩) l.length l.length ∧ Hid (Mk4 w wr l.length nb ga cb gr gx z.toList))
  case first =>
    have hcn := HR1.out.cell0 0 (by simp)
    simp only [List.getElem_cons_zero] at hcn
    have HG : Hid (Grew w1 w1) := Lib.hid (Grew.refl w1)
    have hlt := HR1.out.lt
    go_region_held3 (fun w2 => w2.cell? ⟨nb, 0, none⟩ = some (.int .i64 (l.length : Nat)) ∧ Grew w1 w2)
      (with_reducible exact PSn.of hcn hlt (by repeat' (first | with_reducible exact HG.out | with_reducible apply Grew.drewN | with_reducible apply Grew.drew | with_reducible apply Grew.alloc | (with_reducible refine Grew.set ?_ _ (by simp <;> omega) _))))
      (fail)
    all_goals
      go_wp2_with fail
      go_meet
      first
        | (refine ⟨_, _, w1.heap.size , _, rfl, rfl, rfl, Lib.hid ⟨?_, ?_, ?_, ?_, ?_, ?_, ?_, ?_⟩⟩; rotate_left 4; focus ((repeat' (first | exact HR1.out | (refine RowAt.new' _ _ ?_ _ _; (first | (rfl; done) | (simp; done))) | with_reducible apply RowAt.alloc | with_reducible apply RowAt.drew)); done))
        | (refine ⟨_, _, w1.heap.size + 1 , _, rfl, rfl, rfl, Lib.hid ⟨?_, ?_, ?_, ?_, ?_, ?_, ?_, ?_⟩⟩; rotate_left 4; focus ((repeat' (first | exact HR1.out | (refine RowAt.new' _ _ ?_ _ _; (first | (rfl; done) | (simp; done))) | with_reducible apply RowAt.alloc | with_reducible apply RowAt.drew)); done))
        | (refine ⟨_, _, w1.heap.size + 1 + 1 , _, rfl, rfl, rfl, Lib.hid ⟨?_, ?_, ?_, ?_, ?_, ?_, ?_, ?_⟩⟩; rotate_left 4; focus ((repeat' (first | exact HR1.out | (refine RowAt.new' _ _ ?_ _ _; (first | (rfl; done) | (simp; done))) | with_reducible apply RowAt.alloc | with_reducible apply RowAt.drew)); done))
        | (refine ⟨_, _, w1.heap.size + 1 + 1 + 1 , _, rfl, rfl, rfl, Lib.hid ⟨?_, ?_, ?_, ?_, ?_, ?_, ?_, ?_⟩⟩; rotate_left 4; focus ((repeat' (first | exact HR1.out | (refine RowAt.new' _ _ ?_ _ _; (first | (rfl; done) | (simp; done))) | with_reducible apply RowAt.alloc | with_reducible apply RowAt.drew)); done))
      all_goals (first
        | ((repeat' (first | exact HR1.out | (refine RowAt.new' _ _ ?_ _ _; (first | (rfl; done) | (simp; done))) | with_reducible apply RowAt.alloc | with_reducible apply RowAt.drew)); done)
        | ((repeat' (first | with_reducible exact HG1.out | with_reducible apply Grew.alloc | with_reducible apply Grew.drew | with_reducible apply Grew.drewN)); done)
        | (have h1 := HSZ.out; simp; omega)
        | (intro x hx; have h1 := HSZ.out; have h2 := HNB.out; simp at hx; omega))
  case rest =>
    obtain ⟨ga, cb, gr, gx, rfl, rfl, rfl, HM⟩ := hcut
    have hzv : z.toList = nvals .i64 (List.replicate l.length 0) := by
      rw [HZZ.out, show (Value.int .i64 0).cells = #[.int .i64 0] from rfl, toList_madeCells_one]; simp [nvals]
    have hss := HM.out.ss hzv
    have hA0 := SS.fill0 l hss
    have HS0 := Lib.hid hA0
    have cn := hss.rn.cell0 0 (by simp)
    simp only [List.getElem_cons_zero] at cn
    clear hss hA0 hzv HM HZZ HSZ HR1 HG1
    go_wp2_with fail
    clear cn
    go_loopw [27] (fun v27 wr => ∃ k : Nat, k ≤ l.length ∧ v27 = .int .i64 k ∧ Hid (SS w wr l.length nb ga cb gr gx (fillN (List.range l.length) k) (fillN (l.map (·.toNat)) k) (List.replicate l.length 0))) (fun v27 _ => l.length - (intOf v27).toNat)
    case atStart => exact ⟨0, by omega, rfl, HS0⟩
    case round =>
      clear HS0
      obtain ⟨k, hk, rfl, HS⟩ := hrel
      by_cases hlt : k < l.length
      · have d1 : decide ((k : Int) < (l.length : Int)) = true := decide_eq_true (by omega)
        have d1n : decide (k < l.length) = true := decide_eq_true hlt
        have hki : (k : Int) < (l.length : Int) := by omega
        have hx : ∀ h : k < (bstr l).size, ((bstr l)[k]'h).toNat = (l.getD k 0).toNat := fun h => by
          rw [List.getD_eq_getElem?_getD, List.getElem?_eq_getElem hlt]; rfl
        have hA : (fillN (List.range l.length) k).set k k = fillN (List.range l.length) (k + 1) := by
          have h := fillN_step (List.range l.length) k (by rw [List.length_range]; exact hlt)
          rw [List.getD_eq_getElem?_getD, List.getElem?_range hlt] at h
          exact h
        have hR : (fillN (l.map (·.toNat)) k).set k (l.getD k 0).toNat = fillN (l.map (·.toNat)) (k + 1) := by
          have h := fillN_step (l.map (·.toNat)) k (by rw [List.length_map]; exact hlt)
          rw [List.getD_eq_getElem?_getD, List.getElem?_map, List.getElem?_eq_getElem hlt] at h
          rw [List.getD_eq_getElem?_getD, List.getElem?_eq_getElem hlt]
          exact h
        have HA := Lib.hid hA; have HR := Lib.hid hR
        have hxl := (l.getD k 0).toNat_lt
        have HLT := Lib.hid hlt
        clear hA hR hlt
        generalize (l.getD k 0).toNat = x at *
        have cc := HS.out.rc.cell0 0 (by simp)
        simp only [List.getElem_cons_zero] at cc
        have ca := HS.out.ra.num0 k (by rw [HS.out.lenA]; omega)
        have cr := HS.out.rr.num0 k (by rw [HS.out.lenR]; omega)
        have fa := HS.out.ra.frozen0 k (by rw [nvals_length, HS.out.lenA]; omega)
        have fr := HS.out.rr.frozen0 k (by rw [nvals_length, HS.out.lenR]; omega)
        generalize (fillN (List.range l.length) k).getD k 0 = a0 at *
        generalize (fillN (l.map (·.toNat)) k).getD k 0 = r0 at *
        have hne := HS.out.ne.2.2.2.2.2.1
        have hnc := HS.out.ne.2.2.2.2.1
        go_wp2_with fail
        go_region
        go_wp2_with fail
        go_roundw
        case rel =>
          refine ⟨k + 1, by have := HLT.out; omega, by go_num, ?_⟩
          rw [← HA.out, ← HR.out]
          exact Lib.hid ((HS.out.setA k k HLT.out).setR k x HLT.out).drew
        case measure => simp [intOf]; have := HLT.out; omega
      · obtain rfl : k = l.length := by omega
        have d1 : decide ((l.length : Int) < (l.length : Int)) = false := by simp
        have hAf : fillN (List.range l.length) l.length = List.range l.length := by have := fillN_full (List.range l.length); rw [List.length_range] at this; exact this
        have hRf : fillN (l.map (·.toNat)) l.length = l.map (·.toNat) := by have := fillN_full (l.map (·.toNat)); rw [List.length_map] at this; exact this
        rw [hAf, hRf] at HS
        clear hAf hRf
        go_wp2_with fail
        obtain ⟨kb, hkb⟩ : ∃ kb, kb = wr.heap.size := ⟨_, rfl⟩
        obtain ⟨w5, hw5⟩ : ∃ w5, w5 = wr.alloc (Obj.cells #[.int .i64 1] 3) := ⟨_, rfl⟩
        rw [← hkb, ← hw5]
        have HS5 : Hid (SS w w5 l.length nb ga cb gr gx (List.range l.length) (l.map (·.toNat)) (List.replicate l.length 0)) := Lib.hid (HS.out.grew (by rw [hw5]; exact (Grew.refl wr).alloc _))
        have hkr : RowAt w5 kb 0 3 [.int .i64 ((1 : Nat) : Int)] := by rw [hw5]; exact RowAt.new' wr kb hkb _ _
        have hlow5 : nb < kb ∧ ga < kb ∧ cb < kb ∧ gr < kb ∧ gx < kb := by
          rw [hkb]; exact ⟨HS.out.rn.lt, HS.out.ra.lt, HS.out.rc.lt, HS.out.rr.lt, HS.out.rx.lt⟩
        have HKR := Lib.hid hkr; have HLOW := Lib.hid hlow5
        have hsm : ∀ i, (l.map (·.toNat)).getD i 0 ≤ 100000 := by
          intro i
          rw [List.getD_eq_getElem?_getD, List.getElem?_map]
          cases l[i]? with
          | none => simp
          | some b => have := b.toNat_lt; simp; omega
        have HK0 : Hid (KR w w5 l nb ga cb gr gx kb 1 (List.range l.length) (l.map (·.toNat)) (List.replicate l.length 0)) := Lib.hid ⟨HS5.out, hkr, ⟨by omega, by omega, by omega, by omega, by omega⟩, rank_one l, .inl rfl, by omega, List.Perm.refl _, hsm⟩
        clear HS HS5 HKR HLOW hkr hlow5 hsm hw5 hkb
        go_loopw [7, 9] (fun v7 v9 wr => ∃ (k kb gr gx : Nat) (A R X : List Nat), v7 = .slice (some ⟨gx, 0, none⟩) l.length l.length ∧ v9 = .pointer (some ⟨kb, 0, none⟩) ∧ Hid (KR w wr l nb ga cb gr gx kb k A R X)) (fun _ v9 wr => l.length + 1 - kof wr v9)
        case atStart => exact ⟨1, kb, gr, gx, _, _, _, rfl, rfl, HK0⟩
        case round =>
          clear HK0
          obtain ⟨k, kb, gr, gx, A, R, X, rfl, rfl, HK⟩ := hrel
          have HKOF : Hid (kof wr (.pointer (some ⟨kb, 0, none⟩)) = k) := Lib.hid HK.out.kof
          have hmf : ∀ (fn : Fn) (first cap : Array Value) (w : World), (Instr.makeFunc fn first cap).run Try.prog w = .ok (.func fn first cap) w := fun _ _ _ _ => rfl
          go_wp2_with fail
          obtain ⟨fb, hfb⟩ : ∃ fb, fb = wr.heap.size := ⟨_, rfl⟩
          obtain ⟨w7, hw7⟩ : ∃ w7, w7 = wr.alloc (Obj.cells #[.func (.func 86) #[] #[.pointer (some ⟨kb, 0, none⟩), .pointer (some ⟨nb, 0, none⟩), .pointer (some ⟨cb, 0, none⟩)]] 132) := ⟨_, rfl⟩
          rw [← hfb, ← hw7]
          have hkq : KQ w w7 l nb ga cb gr gx kb fb k A R X := ⟨HK.out.grew (by rw [hw7]; exact (Grew.refl wr).alloc _), by rw [hw7]; exact RowAt.new' wr fb hfb _ _, by
            have a1 := HK.out.ss.rn.lt; have a2 := HK.out.ss.ra.lt; have a3 := HK.out.ss.rc.lt; have a4 := HK.out.ss.rr.lt; have a5 := HK.out.ss.rx.lt; have a6 := HK.out.rk.lt
            omega⟩
          have HQ := Lib.hid hkq
          clear hkq hfb hw7 HK
          have hne := HQ.out.kr.ss.ne; have hme := HQ.out.kr.ne; have hnf := HQ.out.nf
          refine (sort_ends HC w7 kb nb cb gr fb ga k l R A (HQ.out.kr.key h4) HQ.out.rf (Ne.symm hme.2.1) hne.1 (Ne.symm hne.2.2.2.2.1) (Ne.symm hne.2.2.2.2.2.1) (Ne.symm hnf.2.1) HQ.out.kr.ss.ra HQ.out.kr.perm HQ.out.kr.rank HQ.out.kr.k1).mono ?_
          rintro e w8 ⟨rfl, A', hp', hs', hr', hg'⟩
          have HQ8 := Lib.hid (HQ.out.sorted hp' hr' hg')
          have HS8 := Lib.hid hs'
          clear hp' hs' hr' hg' HQ hne hme hnf
          go_wp2_with fail
          have hc0 : Hid (∀ y, y < 0 → X.getD (A'.getD y 0) 0 = cnt (fm l (2 * k)) A' y) := Lib.hid (fun y hy => absurd hy (by omega))
          go_loopw [11, 50] (fun v11 v50 wr => ∃ (x : Nat) (X : List Nat), v50 = .int .i64 x ∧ v11 = .int .i64 (cnt (fm l (2 * k)) A' (x - 1) : Nat) ∧ x ≤ l.length ∧ Hid (∀ y, y < x → X.getD (A'.getD y 0) 0 = cnt (fm l (2 * k)) A' y) ∧ Hid (KQ w wr l nb ga cb gr gx kb fb k A' R X)) (fun _ v50 _ => l.length - (intOf v50).toNat)
          case atStart => exact ⟨0, X, rfl, rfl, by omega, hc0, HQ8⟩
          case round =>
            clear hc0 HQ8
            obtain ⟨x, X, rfl, rfl, hx, HX, HQ⟩ := hrel
            by_cases hlt : x < l.length
            · have d1 : decide ((x : Int) < (l.length : Int)) = true := decide_eq_true (by omega)
              have d1n : decide (x < l.length) = true := decide_eq_true hlt
              have hxi : (x : Int) < (l.length : Int) := by omega
              have ca := HQ.out.kr.ss.ra.num0 x (by rw [HQ.out.kr.ss.lenA]; exact hlt)
              obtain ⟨i, hi⟩ : ∃ i, i = A'.getD x 0 := ⟨_, rfl⟩
              rw [← hi] at ca
              have hin : i < l.length := by
                have hxA : x < A'.length := by rw [HQ.out.kr.ss.lenA]; exact hlt
                rw [hi, List.getD_eq_getElem?_getD, List.getElem?_eq_getElem hxA]
                exact List.mem_range.1 (HQ.out.kr.perm.mem_iff.1 (List.getElem_mem hxA))
              have HLT := Lib.hid hlt; have HI := Lib.hid hi; have HIN := Lib.hid hin
              clear hi hlt
              by_cases h0 : x = 0
              · have d2 : decide ((0 : Int) < (x : Int)) = false := decide_eq_false (by omega)
                have d2n : decide (0 < x) = false := decide_eq_false (by omega)
                have hcn : cnt (fm l (2 * k)) A' x = cnt (fm l (2 * k)) A' (x - 1) := by rw [h0]
                have HCN := Lib.hid hcn
                have cx := HQ.out.kr.ss.rx.num0 i (by rw [HQ.out.kr.ss.lenX]; exact HIN.out)
                have fx := HQ.out.kr.ss.rx.frozen0 i (by rw [nvals_length, HQ.out.kr.ss.lenX]; exact HIN.out)
                have hini : (i : Int) < (l.length : Int) := by have := HIN.out; omega
                generalize X.getD i 0 = xx at cx
                clear h0 hcn hin
                go_wp2_with fail
                go_quiet (fail)
                go_wp2_with fail
                go_roundw
                case rel =>
                  refine ⟨x + 1, X.set i (cnt (fm l (2 * k)) A' x), by go_num, by rw [Nat.add_sub_cancel, HCN.out], by have := HLT.out; omega, Lib.hid (set_cnt HQ.out.kr.perm HLT.out HQ.out.kr.ss.lenX HI.out HIN.out HX.out), ?_⟩
                  rw [HCN.out]
                  refine Lib.hid (KQ.setX (HQ.out.grew ?_) i _ HIN.out)
                  repeat' (first | with_reducible exact Grew.refl _ | with_reducible apply Grew.drewN | with_reducible apply Grew.drew | with_reducible apply Grew.alloc)
                case measure => simp [intOf]; have := HLT.out; omega
              · have d2 : decide ((0 : Int) < (x : Int)) = true := decide_eq_true (by omega)
                have d2n : decide (0 < x) = true := decide_eq_true (by omega)
                obtain ⟨x1, hx1⟩ : ∃ x1, x1 = x - 1 := ⟨_, rfl⟩
                have hx1i : (x : Int) - 1 = (x1 : Int) := by omega
                have hw1 : IntKind.i64.wrap ((x : Int) - 1) = (x1 : Int) := by rw [IntKind.wrap_i64]; omega
                have hx1l : x1 < l.length := by omega
                have hx1I : (x1 : Int) < (l.length : Int) := by omega
                obtain ⟨j, hj⟩ : ∃ j, j = A'.getD x1 0 := ⟨_, rfl⟩
                have hjn : j < l.length := by
                  have hxA : x1 < A'.length := by rw [HQ.out.kr.ss.lenA]; exact hx1l
                  rw [hj, List.getD_eq_getElem?_getD, List.getElem?_eq_getElem hxA]
                  exact List.mem_range.1 (HQ.out.kr.perm.mem_iff.1 (List.getElem_mem hxA))
                have cj := HQ.out.kr.ss.ra.num0 x1 (by rw [HQ.out.kr.ss.lenA]; exact hx1l)
                rw [← hj] at cj
                have cx := HQ.out.kr.ss.rx.num0 i (by rw [HQ.out.kr.ss.lenX]; exact HIN.out)
                have fx := HQ.out.kr.ss.rx.frozen0 i (by rw [nvals_length, HQ.out.kr.ss.lenX]; exact HIN.out)
                have hgx := HQ.out.kr.ss.rx.lt
                have hgx1 : gx < wr.heap.size + 1 := by omega
                have hini : (i : Int) < (l.length : Int) := by have := HIN.out; omega
                generalize X.getD i 0 = xx at cx
                have cf := HQ.out.rf.cell0 0 (by simp)
                simp only [List.getElem_cons_zero] at cf
                have hfl := HQ.out.rf.lt; have hgl := HQ.out.kr.ss.ra.lt
                have HG : Hid (Grew wr wr) := Lib.hid (Grew.refl wr)
                obtain ⟨AA, hAA⟩ : ∃ AA : Nat → Nat, AA = fun i => R.getD i 0 := ⟨_, rfl⟩
                obtain ⟨BB, hBB⟩ : ∃ BB : Nat → Nat, BB = fun i => key2 l k R i := ⟨_, rfl⟩
                have HKEY : Hid (∀ W, Grew wr W → ∀ i, i < l.length → Calls Try.prog 86 #[.int .i64 (i : Nat), .pointer (some ⟨kb, 0, none⟩), .pointer (some ⟨nb, 0, none⟩), .pointer (some ⟨cb, 0, none⟩)] W fun e w' => e = .returned (.agg #[.int .i64 (AA i : Nat), .int .i64 (BB i : Nat)]) ∧ ∃ n, w' = (W.alloc (.cells #[.int .i64 (AA i : Nat), .int .i64 (BB i : Nat)] 126)).drewN n) := Lib.hid fun W hW i hi => by rw [hAA, hBB]; exact key_any W kb nb cb gr k l R ((HQ.out.kr.key h4).grew hW) i hi
                have hkeq : (AA j = AA i ∧ BB j = BB i) ↔ fm l (2 * k) j = fm l (2 * k) i := by rw [hAA, hBB]; exact keys_eq l HQ.out.kr.rank HQ.out.kr.k1 hjn hin
                have heqp := eqPair
                have HJ := Lib.hid hj; have HX1 := Lib.hid hx1; have HKE := Lib.hid hkeq; have HJN := Lib.hid hjn; have HX1L := Lib.hid hx1l; have H0 := Lib.hid h0
                clear hj hx1 hkeq hAA hBB h0 hx1l hx1i hjn hin
                go_wp2_with fail
                go_region_held3 (fun w1 => w1.cell? ⟨fb, 0, none⟩ = some (.func (.func 86) #[] #[.pointer (some ⟨kb, 0, none⟩), .pointer (some ⟨nb, 0, none⟩), .pointer (some ⟨cb, 0, none⟩)]) ∧ w1.cell? ⟨ga, x1, none⟩ = some (.int .i64 (j : Nat)) ∧ Grew wr w1)
                  (with_reducible exact PSm.of cf cj hfl hgl (by repeat' (first | with_reducible exact HG.out | with_reducible apply Grew.drewN | with_reducible apply Grew.drew | with_reducible apply Grew.alloc)))
                  (first
                    | (go_at_call 86; (with_reducible refine (HKEY.out _ ?_ i HIN.out).mono ?_); (next => (repeat' (first | with_reducible exact HG.out | with_reducible apply Grew.drewN | with_reducible apply Grew.drew | with_reducible apply Grew.alloc))); (rintro e w9 ⟨rfl, n9, rfl⟩))
                    | (go_at_call 86; (with_reducible refine (HKEY.out _ ?_ j HJN.out).mono ?_); (next => (repeat' (first | with_reducible exact HG.out | with_reducible apply Grew.drewN | with_reducible apply Grew.drew | with_reducible apply Grew.alloc))); (rintro e w9 ⟨rfl, n9, rfl⟩)))
                all_goals
                  by_cases hfe : fm l (2 * k) j = fm l (2 * k) i
                  · obtain ⟨e1, e2⟩ := HKE.out.2 hfe
                    have e1b : ((AA j : Int) == (AA i : Int)) = true := by rw [beq_iff_eq, e1]
                    have e2b : ((BB j : Int) == (BB i : Int)) = true := by rw [beq_iff_eq, e2]
                    have hcn : cnt (fm l (2 * k)) A' x = cnt (fm l (2 * k)) A' (x - 1) := by
                      have hx9 := H0.out
                      obtain ⟨x', rfl⟩ : ∃ x', x = x' + 1 := ⟨x - 1, by omega⟩
                      show cnt (fm l (2 * k)) A' x' + _ = cnt (fm l (2 * k)) A' x'
                      have e3 : x1 = x' := by rw [HX1.out]; rfl
                      rw [← e3, ← HJ.out, e3, ← HI.out, if_pos hfe]; rfl
                    have hT : ¬ ((!((AA j : Int) == (AA i : Int))) = true ∨ (!((BB j : Int) == (BB i : Int))) = true) := by rw [e1b, e2b]; simp
                    have HCN := Lib.hid hcn
                    clear e1 e2 hfe hcn
                    go_wp2_with fail
                    go_roundw
                    case rel =>
                      refine ⟨x + 1, X.set i (cnt (fm l (2 * k)) A' x), by go_num, by rw [Nat.add_sub_cancel, HCN.out], by have := HLT.out; omega, Lib.hid (set_cnt HQ.out.kr.perm HLT.out HQ.out.kr.ss.lenX HI.out HIN.out HX.out), ?_⟩
                      rw [HCN.out]
                      refine Lib.hid (KQ.setX (HQ.out.grew ?_) i _ HIN.out)
                      repeat' (first | with_reducible exact HG.out | with_reducible apply Grew.drewN | with_reducible apply Grew.drew | with_reducible apply Grew.alloc)
                    case measure => simp [intOf]; have := HLT.out; omega
                  · have e12 : ((AA j : Int) == (AA i : Int) && (BB j : Int) == (BB i : Int)) = false := by
                      cases h7 : ((AA j : Int) == (AA i : Int) && (BB j : Int) == (BB i : Int)) with
                      | false => rfl
                      | true =>
                        rw [Bool.and_eq_true, beq_iff_eq, beq_iff_eq] at h7
                        exact absurd (HKE.out.1 ⟨by omega, by omega⟩) hfe
                    have hcn : cnt (fm l (2 * k)) A' x = cnt (fm l (2 * k)) A' (x - 1) + 1 := by
                      have hx9 := H0.out
                      obtain ⟨x', rfl⟩ : ∃ x', x = x' + 1 := ⟨x - 1, by omega⟩
                      show cnt (fm l (2 * k)) A' x' + _ = cnt (fm l (2 * k)) A' x' + 1
                      have e3 : x1 = x' := by rw [HX1.out]; rfl
                      rw [← e3, ← HJ.out, e3, ← HI.out, if_neg hfe]
                    have hT : (!((AA j : Int) == (AA i : Int))) = true ∨ (!((BB j : Int) == (BB i : Int))) = true := by
                      cases h7 : ((AA j : Int) == (AA i : Int)) with
                      | false => exact .inl rfl
                      | true =>
                        rw [h7, Bool.true_and] at e12
                        exact .inr (by rw [e12]; rfl)
                    have HCN := Lib.hid hcn
                    clear hfe hcn
                    have hcl : cnt (fm l (2 * k)) A' (x - 1) ≤ 5000 := by have := cnt_le (fm l (2 * k)) A' (x - 1); have := HLT.out; omega
                    go_wp2_with fail
                    · go_roundw
                      case rel =>
                        refine ⟨x + 1, X.set i (cnt (fm l (2 * k)) A' x), by go_num, by rw [Nat.add_sub_cancel, HCN.out]; rfl, by have := HLT.out; omega, Lib.hid (set_cnt HQ.out.kr.perm HLT.out HQ.out.kr.ss.lenX HI.out HIN.out HX.out), ?_⟩
                        rw [HCN.out]
                        refine Lib.hid (KQ.setX (HQ.out.grew ?_) i _ HIN.out)
                        repeat' (first | with_reducible exact HG.out | with_reducible apply Grew.drewN | with_reducible apply Grew.drew | with_reducible apply Grew.alloc)
                      case measure => simp [intOf]; have := HLT.out; omega
                    · rename_i hbad
                      exact absurd hbad (by rcases hT with h7 | h7 <;> simp [h7])
            · obtain rfl : x = l.length := by omega
              have d1 : decide ((l.length : Int) < (l.length : Int)) = false := by simp
              have cc := HQ.out.kr.ss.rc.cell0 0 (by simp)
              have cn := HQ.out.kr.ss.rn.cell0 0 (by simp)
              have ck := HQ.out.kr.rk.cell0 0 (by simp)
              have fc := HQ.out.kr.ss.rc.frozen0 0 (by simp)
              simp only [List.getElem_cons_zero] at cc cn ck
              have hw1 : IntKind.i64.wrap ((l.length : Int) - 1) = (l.length : Int) - 1 := by rw [IntKind.wrap_i64]; omega
              have hw2 : wrap64 ((l.length : Int) - 1) = (l.length : Int) - 1 := IntWalk.wrap64_in _ ⟨by omega, by omega⟩
              have hAl := HQ.out.kr.ss.lenA
              have hnc := HQ.out.kr.ss.ne
              have hck : cb ≠ nb := Ne.symm hnc.2.1
              have hck2 : cb ≠ kb := HQ.out.kr.ne.2.2.1
              by_cases hend : l.length ≤ cnt (fm l (2 * k)) A' (l.length - 1) + 1
              · have d3 : decide ((l.length : Int) - 1 ≤ ((cnt (fm l (2 * k)) A' (l.length - 1) : Nat) : Int)) = true := decide_eq_true (by omega)
                have hso := sorted_end l HQ.out.kr.perm HS8.out hend
                have HSO := Lib.hid hso
                clear hend hso hAl hnc
                go_wp2_with fail
                go_ret2
                have hsw := HQ.out.kr.ss.swap
                refine ⟨ga, A', rfl, HSO.out, ?_, HQ.out.kr.ss.low ga (by simp), ?_⟩
                · exact hsw.ra
                · exact hsw.below
              · have d3 : decide ((l.length : Int) - 1 ≤ ((cnt (fm l (2 * k)) A' (l.length - 1) : Nat) : Int)) = false := decide_eq_false (by omega)
                have h2k := go_on l HQ.out.kr.perm (Nat.lt_of_not_le hend)
                have hrk := rank_next l HQ.out.kr.perm HS8.out HQ.out.kr.ss.lenX (fun y hy => HX.out y (by rw [← hAl]; exact hy))
                have hsm := cnt_small HQ.out.kr.perm HQ.out.kr.ss.lenX h4 HX.out
                have HRK := Lib.hid hrk; have HSM := Lib.hid hsm; have H2K := Lib.hid h2k
                have hkl : kb < wr.heap.size := HQ.out.kr.rk.lt
                have hwk : IntKind.i64.wrap ((k : Int) * 2) = ((2 * k : Nat) : Int) := by rw [IntKind.wrap_i64]; omega
                clear hend hrk hsm h2k hAl hnc
                go_wp2_with fail
                have hnx : KR w ((wr.setCell ⟨cb, 0, none⟩ (.slice (some ⟨gx, 0, none⟩) l.length l.length)).alloc (Obj.cells #[.int .i64 (2 * (k : Int))] 3)) l nb ga cb gx gr wr.heap.size (2 * k) A' X R := HQ.out.next HRK.out H2K.out HSM.out _ _ rfl rfl
                have HNX := Lib.hid hnx
                clear hnx
                go_roundw
                case rel => exact ⟨2 * k, wr.heap.size, gx, gr, A', X, R, rfl, rfl, HNX⟩
                case measure =>
                  rw [HKOF.out, HNX.out.kof]
                  have h1 := H2K.out; have h2 := HQ.out.kr.k1
                  omega
end Go.Proofs.Ytenhblpegobbjaa
