/- Contract of package lz: flush (a function within Pack). -/
import Derived.Test.YtnldobfafaajjaaLzC
import Derived.Test.YtnldobfafaajjaaOwnStep
import Derived.Deep.RegionLaw
namespace Go.Proofs.Ytnldobfafaajjaa
open Go.RowKit Go.Maps
set_option linter.unusedVariables false
set_option linter.unusedSimpArgs false
/-- a way from world to world: each step turns one row of those allowed, and makes new blocks -/
inductive Steps (R : Option Nat → Prop) : World → World → Prop where
  | refl (w : World) : Steps R w w
  | step {w w1 w2 : World} (row : Option Nat) (h : Steps R w w1) (hr : R row) (hg : w1.grownBy w2 row) : Steps R w w2
theorem Steps.one {R : Option Nat → Prop} {w w' : World} (row : Option Nat) (hr : R row) (hg : w.grownBy w' row) : Steps R w w' := .step row (.refl w) hr hg
theorem Steps.trans {R : Option Nat → Prop} {w w1 w2 : World} (h : Steps R w w1) (h2 : Steps R w1 w2) : Steps R w w2 := by
  induction h2 with
  | refl => exact h
  | step row _ hr hg ih => exact .step row ih hr hg
theorem Steps.mono {R R' : Option Nat → Prop} {w w' : World} (h : Steps R w w') (hR : ∀ row, R row → R' row) : Steps R' w w' := by
  induction h with
  | refl => exact .refl _
  | step row _ hr hg ih => exact .step row ih (hR _ hr) hg
theorem Steps.size {R : Option Nat → Prop} {w w' : World} (h : Steps R w w') : w.heap.size ≤ w'.heap.size := by
  induction h with
  | refl => exact Nat.le_refl _
  | step row _ hr hg ih => exact Nat.le_trans ih hg.size
theorem Steps.under {R : Option Nat → Prop} {w0 w w' : World} {B : Nat} (h : Steps R w w') (hb : Below B w0 w) (hB : B ≤ w.heap.size) (hR : ∀ j, R (some j) → B ≤ j) : Below B w0 w' := by
  induction h with
  | refl => exact hb
  | step row h0 hr hg ih => exact ih.grown hg (Nat.le_trans hB h0.size) fun j hj => hR j (hj ▸ hr)
theorem Steps.heads {R : Option Nat → Prop} {w w' : World} (h : Steps R w w') {B b n : Nat} {No : Nat → Prop} {l : List UInt8} {p : Nat} (hh : Heads w B b n No l p)
    (hR : ∀ j, R (some j) → j ≠ b ∧ (j < B ∨ No j ∨ w.heap.size ≤ j)) : Heads w' B b n (fun j => No j ∨ w.heap.size ≤ j) l p := by
  have h0 : Heads w B b n (fun j => No j ∨ w.heap.size ≤ j) l p := by
    obtain ⟨D, h1, h2, h3⟩ := hh
    exact ⟨D, h1, h2.reno h1 (fun g hg => hg), h3⟩
  clear hh
  induction h with
  | refl => exact h0
  | @step w1 w2 row hs hr hg ih =>
    obtain ⟨D, h1, h2, h3⟩ := ih
    have hlt : b < w1.heap.size := by
      obtain ⟨es, clock, hb, _⟩ := h1
      exact (Array.getElem?_eq_some_iff.1 hb).1
    have hne : some b ≠ row := by
      cases row with
      | none => simp
      | some j => intro e; injection e with e; exact (hR j hr).1 e.symm
    have hoff : ∀ es clock, w1.heap[b]? = some (.map es clock) → ∀ x ∈ es.toList, x.val.ownBlock = none ∨ x.val.ownBlock ≠ row := by
      intro es clock hb x hx
      cases row with
      | none => cases x.val.ownBlock <;> simp
      | some j =>
        rcases (hR j hr).2 with h5 | h5
        · exact h1.rowsAbove (fun i hi => by cases hi; exact h5) es clock hb x hx
        · exact h2.rowsOff (fun i hi => by cases hi; exact h5) es clock hb x hx
    exact ⟨D, h1.kept hg hne hoff, h2.kept hg hlt hne, h3⟩
theorem Heads.shun {w : World} {B b n : Nat} {No No' : Nat → Prop} {l : List UInt8} {p : Nat} (h : Heads w B b n No l p) (hn : ∀ j, No' j → No j) : Heads w B b n No' l p := by
  obtain ⟨D, h1, h2, h3⟩ := h
  exact ⟨D, h1, fun es clock hb x hx g hg hN => h2 es clock hb x hx g hg (hn g hN), h3⟩
/-- the two texts that Pack makes: what is told (o, its box g5), and what waits (p, its box g6) -/
structure Bufs (w : World) (B g5 g6 : Nat) (ao : Option Addr) (co : Nat) (ap : Option Addr) (cp : Nat) (o p : List UInt8) : Prop where
  ne : g5 ≠ g6
  lt5 : g5 < B
  lt6 : g6 < B
  box5 : RowAt w g5 0 51 [.slice ao o.length co]
  box6 : RowAt w g6 0 51 [.slice ap p.length cp]
  own5 : Owns w B 5 1 ao o.length co (bvals o)
  own6 : Owns w B 5 1 ap p.length cp (bvals p)
  apart : ∀ x y, ao = some x → ap = some y → x.block ≠ y.block
theorem cell_own {w1 w2 : World} {B g o : Nat} {e : TypeId} {size n cap : Nat} {a : Option Addr} {xs : List Value} {v : Value} (hg : w1.grownBy w2 (blk a)) (ho : Owns w1 B e size a n cap xs) (hB : g < B) (hz : B ≤ w1.heap.size) (h : w1.cell? ⟨g, o, none⟩ = some v) : w2.cell? ⟨g, o, none⟩ = some v := by
  rw [World.cell?_of_block (w := w1) (w' := w2) (a := ⟨g, o, none⟩)]
  · exact h
  · refine hg.block g (by omega) (fun hh => ?_)
    cases a with
    | none => simp [blk] at hh
    | some y => have := ho.lt; simp [blk] at hh; omega
theorem Owns.beside {w1 w2 : World} {B : Nat} {e : TypeId} {size n cap : Nat} {a a' : Option Addr} {xs : List Value} (h : Owns w1 B e size a n cap xs) (hg : w1.grownBy w2 (blk a')) (hap : ∀ x y, a' = some x → a = some y → x.block ≠ y.block) : Owns w2 B e size a n cap xs :=
  h.grown hg fun y hy e => by
    cases a' with
    | none => simp [blk] at e
    | some x => have := hap x y rfl hy; simp [blk] at e; omega
theorem Owns.cut0 {w : World} {B : Nat} {e : TypeId} {size n cap : Nat} {a : Option Addr} {xs : List Value} (h : Owns w B e size a n cap xs) : Owns w B e size a 0 cap [] := by
  refine ⟨by simp, ?_⟩
  rcases h.2 with ⟨h1, h2⟩ | ⟨g, cp, cur, h1, h2, h3, h4, h5, h6, h7⟩
  · injection h1 with e1 e2 e3
    subst e1 e3
    exact .inl ⟨rfl, rfl⟩
  · injection h1 with e1 e2 e3
    subst e1 e3
    exact .inr ⟨g, cap, cur, rfl, h2, h3, Nat.zero_le _, h5, h6, by simp⟩
theorem blk_some {a : Option Addr} {j : Nat} (h : blk a = some j) : ∃ x, a = some x ∧ x.block = j := by
  cases a with
  | none => simp [blk] at h
  | some x => exact ⟨x, rfl, by simpa [blk] using h⟩
/-- which rows flush may turn -/
def Turns (w : World) (g5 g6 : Nat) (ao ap : Option Addr) (row : Option Nat) : Prop := ∀ j, row = some j → blk ao = some j ∨ blk ap = some j ∨ j = g5 ∨ j = g6 ∨ w.heap.size ≤ j
def FlushOut (w : World) (B g5 g6 : Nat) (ao ap : Option Addr) (cp : Nat) (o p : List UInt8) (e : Ending) (w' : World) : Prop :=
  e = .returned (.tuple #[]) ∧ ∃ ao' co', Bufs w' B g5 g6 ao' co' ap cp (if p = [] then o else o ++ (UInt8.ofNat (p.length - 1) :: p)) [] ∧ Steps (Turns w g5 g6 ao ap) w w' ∧ ∀ j, blk ao' = some j → blk ao = some j ∨ w.heap.size ≤ j
set_option maxRecDepth 100000 in
theorem flush_nil (w : World) (B g5 g6 : Nat) (ao : Option Addr) (co : Nat) (ap : Option Addr) (cp : Nat) (o : List UInt8) (h : Bufs w B g5 g6 ao co ap cp o []) :
    Calls Try.prog 28 #[.pointer (some ⟨g6, 0, none⟩), .pointer (some ⟨g5, 0, none⟩)] w (FlushOut w B g5 g6 ao ap cp o []) := by
  have c6 := h.box6.cell0 0 (by simp)
  simp only [List.getElem_cons_zero, List.length_nil] at c6
  have H := Lib.hid h; clear h
  go_enter Try.func28, Try.ntmps28
  go_wp2_with fail
  go_end0
  exact ⟨rfl, ao, co, H.out, .refl _, fun j hj => .inl hj⟩
set_option maxRecDepth 100000 in
set_option maxHeartbeats 8000000 in
theorem flush_some (w : World) (B g5 g6 : Nat) (ao : Option Addr) (co : Nat) (ap : Option Addr) (cp : Nat) (o p : List UInt8) (h : Bufs w B g5 g6 ao co ap cp o p) (hp : p ≠ []) (hp8 : p.length ≤ 128) (ho : o.length ≤ 1000000) (hB : B ≤ w.heap.size) :
    Calls Try.prog 28 #[.pointer (some ⟨g6, 0, none⟩), .pointer (some ⟨g5, 0, none⟩)] w (FlushOut w B g5 g6 ao ap cp o p) := by
  have c5 := h.box5.cell0 0 (by simp)
  have c6 := h.box6.cell0 0 (by simp)
  simp only [List.getElem_cons_zero] at c5 c6
  have hpl : 1 ≤ p.length := by cases p with
    | nil => exact absurd rfl hp
    | cons _ _ => simp
  obtain ⟨gp, rfl⟩ : ∃ g, ap = some ⟨g, 0, none⟩ := by
    cases hap : ap with
    | none => rw [hap] at h; have := h.own6.of_none; omega
    | some y => rw [hap] at h; exact ⟨y.block, by rw [← h.own6.row.1]⟩
  obtain ⟨x, hx⟩ : ∃ x : UInt8, x = UInt8.ofNat (p.length - 1) := ⟨_, rfl⟩
  have hxi : IntKind.u8.wrap ((p.length : Int) - 1) = (x.toNat : Int) := by
    rw [IntKind.wrap_u8, hx, UInt8.toNat_ofNat']
    omega
  obtain ⟨XV, hXV⟩ : ∃ XV, XV = IntKind.u8.wrap (IntKind.i64.wrap ((p.length : Int) - 1)) := ⟨_, rfl⟩
  have hXx : XV = (x.toNat : Int) := by rw [hXV, IntWalk.i64_in _ ⟨by omega, by omega⟩]; exact hxi
  have hBW : B ≤ (w.alloc (.cells #[.int .u8 (IntKind.u8.wrap (IntKind.i64.wrap ((p.length : Int) - 1)))] 5)).drew.heap.size := by simp; omega
  have hr1 : RowAt (w.alloc (.cells #[.int .u8 (IntKind.u8.wrap (IntKind.i64.wrap ((p.length : Int) - 1)))] 5)).drew w.heap.size 0 5 [.int .u8 (IntKind.u8.wrap (IntKind.i64.wrap ((p.length : Int) - 1)))] := RowAt.new w _ _
  have hq := h.own5.alloc (.cells #[.int .u8 (IntKind.u8.wrap (IntKind.i64.wrap ((p.length : Int) - 1)))] 5)
  have HQ := hq.drew
  have hne5 := World.new_ne w ⟨g5, 0, none⟩ c5
  have hne6 := World.new_ne w ⟨g6, 0, none⟩ c6
  have HX := Lib.hid hx; clear hx
  have H := Lib.hid h; clear h
  have HPN := Lib.hid hp; clear hp
  have HXX := Lib.hid hXx; clear hXx
  have HXV := Lib.hid hXV; clear hXV hxi
  have hplI : (0 : Int) < (p.length : Int) := by omega
  have hml : o.length + 1 ≤ maxLen := by unfold maxLen; omega
  have hmb : (o.length + 1) * 1 ≤ 140737488355328 := by omega
  have hml2 : o.length + 1 + p.length ≤ maxLen := by unfold maxLen; omega
  have hmb2 : (o.length + 1 + p.length) * 1 ≤ 140737488355328 := by omega
  go_enter Try.func28, Try.ntmps28
  go_wp2_with fail
  have k5a : (w.alloc (.cells #[.int .u8 (IntKind.u8.wrap (IntKind.i64.wrap ((p.length : Int) - 1)))] 5)).drew.cell? ⟨g5, 0, none⟩ = some (.slice ao o.length co) := ((H.out.box5.alloc _).drew).cell0 0 (by simp)
  have k6a : (w.alloc (.cells #[.int .u8 (IntKind.u8.wrap (IntKind.i64.wrap ((p.length : Int) - 1)))] 5)).drew.cell? ⟨g6, 0, none⟩ = some (.slice (some ⟨gp, 0, none⟩) p.length cp) := ((H.out.box6.alloc _).drew).cell0 0 (by simp)
  have HP6 := (H.out.own6.alloc (.cells #[.int .u8 (IntKind.u8.wrap (IntKind.i64.wrap ((p.length : Int) - 1)))] 5)).drew
  have K1 : Hid (∀ w1 : World, (w.alloc (.cells #[.int .u8 (IntKind.u8.wrap (IntKind.i64.wrap ((p.length : Int) - 1)))] 5)).drew.grownBy w1 (blk ao) → w1.cell? ⟨g5, 0, none⟩ = some (.slice ao o.length co) ∧ w1.cell? ⟨g6, 0, none⟩ = some (.slice (some ⟨gp, 0, none⟩) p.length cp) ∧ RowAt w1 gp 0 5 (bvals p) ∧ B ≤ w1.heap.size) := Lib.hid (fun w1 hg =>
    ⟨cell_own hg HQ H.out.lt5 hBW k5a, cell_own hg HQ H.out.lt6 hBW k6a, (HP6.beside hg H.out.apart).row.2.2.2.2, Nat.le_trans hBW hg.size⟩)
  have K2 : Hid (∀ (w1 w2 : World) (a1 : Option Addr) (n1 cap1 : Nat) (xs : List Value), Owns w1 B 5 1 a1 n1 cap1 xs → B ≤ w1.heap.size → w1.grownBy w2 (blk a1) → (w.alloc (.cells #[.int .u8 (IntKind.u8.wrap (IntKind.i64.wrap ((p.length : Int) - 1)))] 5)).drew.grownBy w1 (blk ao) → RowAt w2 g5 0 51 [.slice ao o.length co] ∧ RowAt w2 g6 0 51 [.slice (some ⟨gp, 0, none⟩) p.length cp]) := Lib.hid (fun w1 w2 a1 n1 cap1 xs ho hz hg hg1 =>
    ⟨RowAt.blk (RowAt.blk (H.out.box5.alloc _).drew HQ hg1 H.out.lt5) ho hg H.out.lt5, RowAt.blk (RowAt.blk (H.out.box6.alloc _).drew HQ hg1 H.out.lt6) ho hg H.out.lt6⟩)
  have pone : ∀ u ∈ bvals p, u.oneCell' = true := by
    intro u hu
    obtain ⟨b, _, rfl⟩ := List.mem_map.1 hu
    rfl
  have pln : (bvals p).length = p.length * 1 := by rw [bvals_length, Nat.mul_one]
  have ppos : 0 < p.length := by omega
  have n65 : g6 ≠ g5 := fun e => H.out.ne e.symm
  go_region_law (first
    | (refine step_pushN _ (by rfl) _ _ 51 (by rfl) B 5 (.int .u8 0) 1 1 Try.underlying51 infoU8 rfl (by decide) ao o.length co (bvals o) (by rfl) HQ w.heap.size 1 1 (by decide) [.int .u8 (IntKind.u8.wrap (IntKind.i64.wrap ((p.length : Int) - 1)))] (by rfl) (by simp [Value.oneCell']) (by rfl) hr1 hml hmb hBW ?_; intro a1 cap1 w1 hown1 hgrow1 hloc1 hex1; obtain ⟨k5, k6, kr, kz⟩ := K1.out w1 hgrow1)
    | (refine step_pushN _ (by rfl) _ _ 51 (by rfl) B 5 (.int .u8 0) 1 1 Try.underlying51 infoU8 rfl (by decide) a1 (o.length + 1) cap1 _ (by rfl) hown1 gp p.length cp ppos (bvals p) pln pone (by rfl) kr hml2 hmb2 kz ?_; intro a2 cap2 w2 hown2 hgrow2 hloc2 hex2; obtain ⟨r5, r6⟩ := K2.out w1 w2 a1 (o.length + 1) cap1 _ hown1 kz hgrow2 hgrow1; have k5b := r5.cell0 0 (by simp); have f5b := r5.frozen0 0 (by simp); have k6b := r6.cell0 0 (by simp)))
  all_goals
    have r6s := r6.far (p := ⟨g5, 0, none⟩) n65 (.slice a2 (o.length + 1 + p.length) cap2)
    have c6s := r6s.cell0 0 (by simp)
    have f6s := r6s.frozen0 0 (by simp)
    simp only [List.getElem_cons_zero] at c6s
    have R5 := Lib.hid r5
    have R6 := Lib.hid r6
    have HG1 := Lib.hid hgrow1
    have HG2 := Lib.hid hgrow2
    have HO2 := Lib.hid hown2
    have HL1 := Lib.hid hloc1
    have HL2 := Lib.hid hloc2
    clear hgrow1 hgrow2 hown2 hloc1 hloc2 r5 r6 r6s hown1 k5 k6 k5b k6b f5b hex1 hex2 kr kz
    go_wp2_with fail
    go_end0
    have hXb : (w.alloc (.cells #[.int .u8 (IntKind.u8.wrap (IntKind.i64.wrap ((p.length : Int) - 1)))] 5)).drew.heap.size = w.heap.size + 1 := by simp
    have hz1 : w.heap.size + 1 ≤ w1.heap.size := by have := HG1.out.size; omega
    have hz2 : w1.heap.size ≤ w2.heap.size := HG2.out.size
    have b1 : ∀ j, blk a1 = some j → blk ao = some j ∨ w.heap.size ≤ j := fun j hj => by
      obtain ⟨x, rfl, rfl⟩ := blk_some hj
      rcases HL1.out x rfl with h | h
      · left; rw [h]; rfl
      · right; omega
    have b2 : ∀ j, blk a2 = some j → blk ao = some j ∨ w.heap.size ≤ j := fun j hj => by
      obtain ⟨x, rfl, rfl⟩ := blk_some hj
      rcases HL2.out x rfl with h | h
      · exact b1 _ (by rw [h]; rfl)
      · right; omega
    have gpl : gp < w.heap.size := H.out.own6.lt.2
    have gpB : B ≤ gp := H.out.own6.lt.1
    have ap1 : ∀ (a' : Option Addr), (∀ j, blk a' = some j → blk ao = some j ∨ w.heap.size ≤ j) → ∀ x y : Addr, a' = some x → some (⟨gp, 0, none⟩ : Addr) = some y → x.block ≠ y.block := fun a' hb x y hx hy => by
      cases hy
      rcases hb x.block (by rw [hx]; rfl) with h | h
      · obtain ⟨z, hz, hzx⟩ := blk_some h
        have := H.out.apart z ⟨gp, 0, none⟩ hz rfl
        rw [← hzx]; exact this
      · show x.block ≠ gp
        omega
    have o6 : Owns w2 B 5 1 (some ⟨gp, 0, none⟩) p.length cp (bvals p) := (HP6.beside HG1.out H.out.apart).beside HG2.out (ap1 a1 b1)
    have ne5 : ∀ x, a2 = some x → x.block ≠ g5 := fun x hx => by subst hx; have := HO2.out.lt; have := H.out.lt5; omega
    have ne6 : ∀ x, a2 = some x → x.block ≠ g6 := fun x hx => by subst hx; have := HO2.out.lt; have := H.out.lt6; omega
    have hlist : bvals o ++ [Value.int .u8 (IntKind.u8.wrap (IntKind.i64.wrap ((p.length : Int) - 1)))] ++ bvals p = bvals (o ++ (UInt8.ofNat (p.length - 1) :: p)) := by
      rw [← HXV.out, HXX.out, HX.out]
      simp [bvals, bval]
    have ho2 := HO2.out
    rw [hlist] at ho2
    have hll : (o ++ (UInt8.ofNat (p.length - 1) :: p)).length = o.length + 1 + p.length := by simp; omega
    refine ⟨rfl, a2, cap2, ⟨H.out.ne, H.out.lt5, H.out.lt6, ?_, ?_, ?_, ?_, ?_⟩, ?_, b2⟩
    · rw [if_neg HPN.out, hll]
      exact ((R5.out.set0 0 (by simp) (.slice a2 (o.length + 1 + p.length) cap2))).far (p := ⟨g6, 0, none⟩) H.out.ne _
    · exact (R6.out.far (p := ⟨g5, 0, none⟩) n65 _).set0 0 (by simp) (.slice (some ⟨gp, 0, none⟩) 0 cp)
    · rw [if_neg HPN.out, hll]
      exact (ho2.far (p := ⟨g5, 0, none⟩) ne5 _).far (p := ⟨g6, 0, none⟩) ne6 _
    · exact (((o6.far (p := ⟨g5, 0, none⟩) (fun x hx => by cases hx; show gp ≠ g5; have := H.out.lt5; omega) _).far (p := ⟨g6, 0, none⟩) (fun x hx => by cases hx; show gp ≠ g6; have := H.out.lt6; omega) _)).cut0
    · exact ap1 a2 b2
    · have hgA : w.grownBy (w.alloc (.cells #[.int .u8 (IntKind.u8.wrap (IntKind.i64.wrap ((p.length : Int) - 1)))] 5)).drew none := grown_drew (World.grownBy_alloc w _ none)
      have s1 : Steps (Turns w g5 g6 ao (some ⟨gp, 0, none⟩)) w w1 := .step _ (.one none (fun j hj => by cases hj) hgA) (fun j hj => .inl hj) HG1.out
      have s2 : Steps (Turns w g5 g6 ao (some ⟨gp, 0, none⟩)) w w2 := .step _ s1 (fun j hj => by rcases b1 j hj with h | h; exact .inl h; exact .inr (.inr (.inr (.inr h)))) HG2.out
      have s3 := Steps.step (R := Turns w g5 g6 ao (some ⟨gp, 0, none⟩)) (some g5) s2 (fun j hj => by cases hj; exact .inr (.inr (.inl rfl))) (grown_set (grown_refl w2 _) (p := ⟨g5, 0, none⟩) rfl (.slice a2 (o.length + 1 + p.length) cap2))
      exact .step (some g6) s3 (fun j hj => by cases hj; exact .inr (.inr (.inr (.inl rfl)))) (grown_set (grown_refl _ _) (p := ⟨g6, 0, none⟩) rfl _)
theorem flush_any (w : World) (B g5 g6 : Nat) (ao : Option Addr) (co : Nat) (ap : Option Addr) (cp : Nat) (o p : List UInt8) (h : Bufs w B g5 g6 ao co ap cp o p) (hp8 : p.length ≤ 128) (ho : o.length ≤ 1000000) (hB : B ≤ w.heap.size) :
    Calls Try.prog 28 #[.pointer (some ⟨g6, 0, none⟩), .pointer (some ⟨g5, 0, none⟩)] w (FlushOut w B g5 g6 ao ap cp o p) := by
  by_cases hp : p = []
  · subst hp; exact flush_nil w B g5 g6 ao co ap cp o h
  · exact flush_some w B g5 g6 ao co ap cp o p h hp hp8 ho hB
end Go.Proofs.Ytnldobfafaajjaa
