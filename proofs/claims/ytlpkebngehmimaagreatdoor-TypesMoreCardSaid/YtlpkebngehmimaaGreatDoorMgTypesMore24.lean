/- How tmpl.item and tmpl.block end; Take as a choice. -/
import Derived.Test.YtlpkebngehmimaaGreatDoorMgTypesMore23
section
/- Items in memory: what stays, what stands one behind the other; the result's box filled. -/
namespace Go.Proofs.YtlpkebngehmimaaGreatDoor
open Go.RowKit
set_option linter.unusedVariables false
set_option linter.unusedSimpArgs false
open Rd
theorem RowAt.ty {w : World} {g o o' : Nat} {e e' : TypeId} {xs ys : List Value} (h : RowAt w g o e xs) (h' : RowAt w g o' e' ys) : e = e' := by
  obtain ⟨c, z, h1, _⟩ := h
  obtain ⟨c', z', h1', _⟩ := h'
  rw [h1] at h1'
  cases h1'
  rfl
/-- each block that holds an expression's node stays -/
def KeepX (w w' : World) (rb : Nat) : Prop := ∀ g xs, rb < g → RowAt w g 0 170 xs → w'.heap[g]? = w.heap[g]?
theorem IsX.keep {w w' : World} {rb : Nat} (hk : KeepX w w' rb) : ∀ (x : Ex.X) (b : Nat), IsX w rb b x → IsX w' rb b x
  | .num a n, b, h => ⟨h.1, h.2.of_heap (hk b _ h.1 h.2)⟩
  | .name a s, b, h => ⟨h.1, h.2.of_heap (hk b _ h.1 h.2)⟩
  | .bin a op l r, b, h => by
    obtain ⟨bl, br, h1, h2, h3, h4⟩ := h
    exact ⟨bl, br, h1, h2.of_heap (hk b _ h1 h2), IsX.keep hk l bl h3, IsX.keep hk r br h4⟩
namespace Tm
theorem CntV.keep {w w' : World} {rb : Nat} (hk : KeepX w w' rb) {c : Option Ex.X} {v : Value} (h : CntV w rb c v) : CntV w' rb c v := by
  cases c with
  | none => exact h
  | some x =>
    obtain ⟨b, h1, h2⟩ := h
    exact ⟨b, h1, IsX.keep hk x b h2⟩
theorem Enc.keep {w w' : World} {rb : Nat} {ok : Nat → Prop} (hk : KeepX w w' rb) (ho : ∀ b, ok b → w'.heap[b]? = w.heap[b]?) : ∀ (l : Its) (vs : List Value), Enc w rb ok l vs → Enc w' rb ok l vs
  | .nil, vs, e => e
  | .cons a l, vs, e => by
    obtain ⟨cv, us, h1, h2, h3⟩ := e
    exact ⟨cv, us, h1.keep hk, h2, Enc.keep hk ho l us h3⟩
  | .when a c b l, vs, e => by
    obtain ⟨cb, ga, cap, bs, us, h1, h2, h3, h4, h5, h6⟩ := e
    exact ⟨cb, ga, cap, bs, us, IsX.keep hk c cb h1, h2.keep fun x hx => ho _ (h3 x hx), h3, Enc.keep hk ho b bs h4, h5, Enc.keep hk ho l us h6⟩
theorem Enc.lt {w : World} {rb : Nat} {ok : Nat → Prop} : ∀ (l : Its) (vs : List Value), Enc w rb ok l vs → Enc w rb (fun b => ok b ∧ b < w.heap.size) l vs
  | .nil, vs, e => e
  | .cons a l, vs, e => by
    obtain ⟨cv, us, h1, h2, h3⟩ := e
    exact ⟨cv, us, h1, h2, Enc.lt l us h3⟩
  | .when a c b l, vs, e => by
    obtain ⟨cb, ga, cap, bs, us, h1, h2, h3, h4, h5, h6⟩ := e
    exact ⟨cb, ga, cap, bs, us, h1, h2, fun x hx => ⟨h3 x hx, h2.blk_lt x hx⟩, Enc.lt b bs h4, h5, Enc.lt l us h6⟩
theorem Enc.app {w : World} {rb : Nat} {ok : Nat → Prop} {m : Its} {us : List Value} (hm : Enc w rb ok m us) : ∀ (l : Its) (vs : List Value), Enc w rb ok l vs → Enc w rb ok (l.app m) (vs ++ us)
  | .nil, vs, e => by rw [show vs = [] from e]; exact hm
  | .cons a l, vs, e => by
    obtain ⟨cv, ys, h1, rfl, h3⟩ := e
    exact ⟨cv, ys ++ us, h1, by rw [List.append_assoc], Enc.app hm l ys h3⟩
  | .when a c b l, vs, e => by
    obtain ⟨cb, ga, cap, bs, ys, h1, h2, h3, h4, rfl, h6⟩ := e
    exact ⟨cb, ga, cap, bs, ys ++ us, h1, h2, h3, h4, by rw [List.append_assoc], Enc.app hm l ys h6⟩
/-- the cells of one item -/
theorem Enc.cells {w : World} {rb : Nat} {ok : Nat → Prop} {I : Its} {vs : List Value} (hI : I.len = 1) (h : Enc w rb ok I vs) : ∃ (k0 k1 k4 k5 k9 : Nat) (s2 s3 s10 s11 : ByteArray) (b6 b7 : Bool) (p8 a12 : Option Addr) (n12 c12 : Nat),
    vs = [.int .i64 (k0 : Nat), .int .i64 (k1 : Nat), .string s2, .string s3, .int .i64 (k4 : Nat), .int .i64 (k5 : Nat), .bool b6, .bool b7, .pointer p8, .int .i64 (k9 : Nat), .string s10, .string s11, .slice a12 n12 c12] := by
  have z : ∀ (l : Its) (us : List Value), l.len = 0 → Enc w rb ok l us → us = [] := by
    intro l us h1 h2
    cases l with
    | nil => exact h2
    | cons => simp [Its.len] at h1
    | when => simp [Its.len] at h1
  cases I with
  | nil => simp [Its.len] at hI
  | cons a l =>
    obtain ⟨cv, us, h1, rfl, h3⟩ := h
    rw [z l us (by simpa [Its.len] using hI) h3, List.append_nil]
    cases hc : a.cnt with
    | none => rw [hc] at h1; rw [show cv = .pointer none from h1]; exact ⟨_, _, _, _, _, _, _, _, _, _, _, _, _, _, _, rfl⟩
    | some x =>
      rw [hc] at h1
      obtain ⟨b, rfl, _⟩ := h1
      exact ⟨_, _, _, _, _, _, _, _, _, _, _, _, _, _, _, rfl⟩
  | when a c b l =>
    obtain ⟨cb, ga, cap, bs, us, h1, h2, h3, h4, rfl, h6⟩ := h
    rw [z l us (by simpa [Its.len] using hI) h6, List.append_nil]
    exact ⟨_, _, 0, 0, 0, _, _, _, _, _, _, _, _, _, _, rfl⟩
end Tm
/-- the result's box, stored -/
abbrev st13 (w : World) (b : Nat) (v0 v1 v2 v3 v4 v5 v6 v7 v8 v9 v10 v11 v12 : Value) : World :=
  (((((((((((((w.setCell ⟨b, 0, none⟩ v0).setCell ⟨b, 1, none⟩ v1).setCell ⟨b, 2, none⟩ v2).setCell ⟨b, 3, none⟩ v3).setCell ⟨b, 4, none⟩ v4).setCell ⟨b, 5, none⟩ v5).setCell ⟨b, 6, none⟩ v6).setCell ⟨b, 7, none⟩ v7).setCell ⟨b, 8, none⟩ v8).setCell ⟨b, 9, none⟩ v9).setCell ⟨b, 10, none⟩ v10).setCell ⟨b, 11, none⟩ v11).setCell ⟨b, 12, none⟩ v12)
theorem st13_row {w : World} {b : Nat} {T : TypeId} {ys : List Value} (h : RowAt w b 0 T ys) (hy : ys.length = 13) (v0 v1 v2 v3 v4 v5 v6 v7 v8 v9 v10 v11 v12 : Value) : RowAt (st13 w b v0 v1 v2 v3 v4 v5 v6 v7 v8 v9 v10 v11 v12) b 0 T [v0, v1, v2, v3, v4, v5, v6, v7, v8, v9, v10, v11, v12] := by
  match ys, hy with
  | [a0, a1, a2, a3, a4, a5, a6, a7, a8, a9, a10, a11, a12], _ =>
    exact ((((((((((((h.set0 0 (by simp) v0).set0 1 (by simp) v1).set0 2 (by simp) v2).set0 3 (by simp) v3).set0 4 (by simp) v4).set0 5 (by simp) v5).set0 6 (by simp) v6).set0 7 (by simp) v7).set0 8 (by simp) v8).set0 9 (by simp) v9).set0 10 (by simp) v10).set0 11 (by simp) v11).set0 12 (by simp) v12
theorem st13_far {w : World} {b : Nat} (v0 v1 v2 v3 v4 v5 v6 v7 v8 v9 v10 v11 v12 : Value) (g : Nat) (hg : g ≠ b) : (st13 w b v0 v1 v2 v3 v4 v5 v6 v7 v8 v9 v10 v11 v12).heap[g]? = w.heap[g]? := by
  have k : ∀ (W : World) (i : Nat) (v : Value), (W.setCell ⟨b, i, none⟩ v).heap[g]? = W.heap[g]? := fun W i v => Below.heap_setCell W ⟨b, i, none⟩ v g hg
  unfold st13
  iterate 13 rw [k]
theorem st13_size {w : World} {b : Nat} (v0 v1 v2 v3 v4 v5 v6 v7 v8 v9 v10 v11 v12 : Value) : (st13 w b v0 v1 v2 v3 v4 v5 v6 v7 v8 v9 v10 v11 v12).heap.size = w.heap.size := by
  unfold st13
  simp only [World.size_setCell]
theorem ItSt.setX {w0 w : World} {rb yb xb E : Nat} {R : List Rd.Tok} {ys cs : List Value} (h : ItSt w0 w rb yb xb E R ys cs) (k : Nat) (v : Value) {x : Ex.X} {b : Nat} (hx : IsX w rb b x) : IsX (w.setCell ⟨xb, k, none⟩ v) rb b x := by
  refine IsX.keep (fun g xs _ hg => Below.heap_setCell w ⟨xb, k, none⟩ v g ?_) x b hx
  rintro rfl
  exact absurd (h.row.ty hg) (by decide)
/-- item's end -/
theorem ItSt.fin {w0 w : World} {rb yb xb E : Nat} {R : List Rd.Tok} {ys cs : List Value} (h : ItSt w0 w rb yb xb E R ys cs) (hy : ys.length = 13) (v0 v1 v2 v3 v4 v5 v6 v7 v8 v9 v10 v11 v12 : Value) :
    Rdr (st13 w yb v0 v1 v2 v3 v4 v5 v6 v7 v8 v9 v10 v11 v12) rb R E ∧ w0.grownBy (st13 w yb v0 v1 v2 v3 v4 v5 v6 v7 v8 v9 v10 v11 v12) (some rb) ∧ KeepX w (st13 w yb v0 v1 v2 v3 v4 v5 v6 v7 v8 v9 v10 v11 v12) rb := by
  have hne : rb < yb := by have := h.lt; have := h.ylo; omega
  refine ⟨?_, ?_, ?_⟩
  · exact (((((((((((((h.rd.setX hne v0).setX hne v1).setX hne v2).setX hne v3).setX hne v4).setX hne v5).setX hne v6).setX hne v7).setX hne v8).setX hne v9).setX hne v10).setX hne v11).setX hne v12)
  · exact up_setX (up_setX (up_setX (up_setX (up_setX (up_setX (up_setX (up_setX (up_setX (up_setX (up_setX (up_setX (up_setX h.gr h.ylo v0) h.ylo v1) h.ylo v2) h.ylo v3) h.ylo v4) h.ylo v5) h.ylo v6) h.ylo v7) h.ylo v8) h.ylo v9) h.ylo v10) h.ylo v11) h.ylo v12
  · intro g xs _ hg
    refine st13_far _ _ _ _ _ _ _ _ _ _ _ _ _ g ?_
    rintro rfl
    have := h.yrow.ty hg
    exact absurd this (by decide)
/-- a cell of the item stored, then item's end: what stays -/
theorem ItSt.fin2 {w0 w : World} {rb yb xb E : Nat} {R : List Rd.Tok} {ys cs : List Value} (h : ItSt w0 w rb yb xb E R ys cs) (k : Nat) (v v0 v1 v2 v3 v4 v5 v6 v7 v8 v9 v10 v11 v12 : Value) :
    KeepX w (st13 (w.setCell ⟨xb, k, none⟩ v) yb v0 v1 v2 v3 v4 v5 v6 v7 v8 v9 v10 v11 v12) rb ∧ ∀ b, b ≠ xb → b ≠ yb → (st13 (w.setCell ⟨xb, k, none⟩ v) yb v0 v1 v2 v3 v4 v5 v6 v7 v8 v9 v10 v11 v12).heap[b]? = w.heap[b]? := by
  have hk : ∀ b, b ≠ xb → b ≠ yb → (st13 (w.setCell ⟨xb, k, none⟩ v) yb v0 v1 v2 v3 v4 v5 v6 v7 v8 v9 v10 v11 v12).heap[b]? = w.heap[b]? := fun b h1 h2 => (st13_far _ _ _ _ _ _ _ _ _ _ _ _ _ b h2).trans (Below.heap_setCell w ⟨xb, k, none⟩ v b h1)
  refine ⟨fun g xs _ hg => hk g ?_ ?_, hk⟩
  · rintro rfl; exact absurd (h.row.ty hg) (by decide)
  · rintro rfl; exact absurd (h.yrow.ty hg) (by decide)
end Go.Proofs.YtlpkebngehmimaaGreatDoor
end
section
/- How tmpl.item and tmpl.block end; Take as a choice. -/
namespace Go.Proofs.YtlpkebngehmimaaGreatDoor
open Go.RowKit
set_option linter.unusedVariables false
set_option linter.unusedSimpArgs false
open Rd
/-- how tmpl.item ends -/
def ItemOut (w0 : World) (rb E d : Nat) (T : List Rd.Tok) (e : Ending) (w' : World) : Prop :=
  (∃ I R cs, Tm.ItmP E d T I R ∧ e = .returned (.agg cs.toArray) ∧ Tm.Enc w' rb (fun b => w0.heap.size ≤ b) I cs ∧ Rdr w' rb R E ∧ w0.grownBy w' (some rb)) ∨ ((∀ I R, ¬ Tm.ItmP E d T I R) ∧ Bad w0 rb e w')
/-- how tmpl.block ends -/
def BlockOut (w0 : World) (rb E d : Nat) (T : List Rd.Tok) (e : Ending) (w' : World) : Prop :=
  (∃ l R ga cap bs, Tm.BlkP E d T l R ∧ e = .returned (.slice ga (Tm.Its.len l) cap) ∧ Owns w' w0.heap.size 88 13 ga (Tm.Its.len l) cap bs ∧ Tm.Enc w' rb (fun b => w0.heap.size ≤ b) l bs ∧ Rdr w' rb R E ∧ w0.grownBy w' (some rb)) ∨ ((∀ l R, ¬ Tm.BlkP E d T l R) ∧ Bad w0 rb e w')
def BlockC (rb E d : Nat) (T : List Rd.Tok) : Prop := ∀ w, Env w rb → Rdr w rb T E → Calls Tryz.prog 27 #[.pointer (some ⟨rb, 0, none⟩), .int .i64 (d : Nat)] w (BlockOut w rb E d T)
def ItemC (rb E d : Nat) (T : List Rd.Tok) : Prop := ∀ w, Env w rb → Rdr w rb T E → Calls Tryz.prog 49 #[.pointer (some ⟨rb, 0, none⟩), .int .i64 (d : Nat)] w (ItemOut w rb E d T)
/-- a token that may come -/
theorem take_any (w : World) (rb E : Nat) (T : List Rd.Tok) (m : Tm.Wd) (hm : m ≠ []) (hr : Rdr w rb T E) :
    Calls Tryz.prog 45 #[.pointer (some ⟨rb, 0, none⟩), .string (bstr m)] w fun e w' => (∃ t R, T = t :: R ∧ t.1 = m ∧ e = .returned (.bool true) ∧ Rdr w' rb R E ∧ w.grownBy w' (some rb)) ∨ (Tm.textOf T ≠ m ∧ e = .returned (.bool false) ∧ w' = w) := by
  have hto : textOf T = Tm.textOf T := by cases T <;> rfl
  by_cases h : Tm.textOf T = m
  · cases T with
    | nil => exact absurd h.symm hm
    | cons t R =>
      have h2 : t.1 = m := h
      subst h2
      exact (Take_yes rb t R E w hr hm).mono fun e w' h => .inl ⟨t, R, rfl, rfl, h⟩
  · exact (Take_no rb T E m w hr hm (by rw [hto]; exact h)).mono fun e w' g => .inr ⟨h, g⟩
end Go.Proofs.YtlpkebngehmimaaGreatDoor
end
