/- How tmpl.item and tmpl.block end; Take as a choice. -/
import Derived.Test.YtfdmgeloghpodaaDoorMgTmplPieces24
section
/- Items in memory. -/
namespace Go.Proofs.YtfdmgeloghpodaaDoor
open Go.RowKit
set_option linter.unusedVariables false
set_option linter.unusedSimpArgs false
open Rd
namespace Tm
def kindN : Knd → Nat
  | .scalar _ => 1
  | .bytes => 2
  | .struct _ => 3
def kindT : Knd → Wd
  | .struct t => t
  | _ => []
def kindW (k : Knd) : Nat × Nat × Bool := match k with
  | .scalar w => kindV w
  | _ => (0, 0, false)
def manyB (h : Hd) : Bool := match h.k, h.cnt with
  | .bytes, _ => false
  | _, some _ => true
  | _, none => false
/-- an expression that may not be there -/
def CntV (w : World) (rb : Nat) : Option Ex.X → Value → Prop
  | none, v => v = .pointer none
  | some x, v => ∃ b, v = .pointer (some ⟨b, 0, none⟩) ∧ IsX w rb b x
def hdCells (h : Hd) (cv : Value) : List Value :=
  [.int .i64 (kindN h.k : Nat), .int .i64 (h.at_ : Nat), .string (bstr h.name), .string (bstr (kindT h.k)), .int .i64 ((kindW h.k).1 : Nat), .int .i64 ((kindW h.k).2.1 : Nat), .bool (kindW h.k).2.2, .bool (manyB h), cv,
    .int .i64 ((ruleV h.rule).1 : Nat), .string (bstr (ruleV h.rule).2.1), .string (bstr (ruleV h.rule).2.2), .slice none 0 0]
def whenCells (a : Nat) (cv sv : Value) : List Value :=
  [.int .i64 4, .int .i64 (a : Nat), .string (bstr []), .string (bstr []), .int .i64 0, .int .i64 0, .bool false, .bool false, cv, .int .i64 0, .string (bstr []), .string (bstr []), sv]
/-- items as a row of cells; bodies lie in rows of their own, which are 'ok' -/
def Enc (w : World) (rb : Nat) (ok : Nat → Prop) : Its → List Value → Prop
  | .nil, vs => vs = []
  | .cons h l, vs => ∃ cv us, CntV w rb h.cnt cv ∧ vs = hdCells h cv ++ us ∧ Enc w rb ok l us
  | .when a c b l, vs => ∃ cb ga cap bs us, IsX w rb cb c ∧ Owns w (rb + 1) 86 13 ga b.len cap bs ∧ (∀ x, ga = some x → ok x.block) ∧ Enc w rb ok b bs ∧ vs = whenCells a (.pointer (some ⟨cb, 0, none⟩)) (.slice ga b.len cap) ++ us ∧ Enc w rb ok l us
theorem Enc.mono {w : World} {rb : Nat} {ok ok' : Nat → Prop} (h : ∀ b, ok b → ok' b) : ∀ (l : Its) (vs : List Value), Enc w rb ok l vs → Enc w rb ok' l vs
  | .nil, vs, e => e
  | .cons a l, vs, e => by
    obtain ⟨cv, us, h1, h2, h3⟩ := e
    exact ⟨cv, us, h1, h2, Enc.mono h l us h3⟩
  | .when a c b l, vs, e => by
    obtain ⟨cb, ga, cap, bs, us, h1, h2, h3, h4, h5, h6⟩ := e
    exact ⟨cb, ga, cap, bs, us, h1, h2, fun x hx => h _ (h3 x hx), Enc.mono h b bs h4, h5, Enc.mono h l us h6⟩
theorem Enc.grown {w w' : World} {rb : Nat} {ok : Nat → Prop} (hg : w.grownBy w' (some rb)) : ∀ (l : Its) (vs : List Value), Enc w rb ok l vs → Enc w' rb ok l vs
  | .nil, vs, e => e
  | .cons a l, vs, e => by
    obtain ⟨cv, us, h1, h2, h3⟩ := e
    refine ⟨cv, us, ?_, h2, Enc.grown hg l us h3⟩
    cases hc : a.cnt with
    | none => rw [hc] at h1; exact h1
    | some x =>
      rw [hc] at h1
      obtain ⟨b, h4, h5⟩ := h1
      exact ⟨b, h4, IsX.grown hg x b h5⟩
  | .when a c b l, vs, e => by
    obtain ⟨cb, ga, cap, bs, us, h1, h2, h3, h4, h5, h6⟩ := e
    refine ⟨cb, ga, cap, bs, us, IsX.grown hg c cb h1, h2.grown hg fun x hx e => ?_, h3, Enc.grown hg b bs h4, h5, Enc.grown hg l us h6⟩
    subst hx
    have := h2.lt.1
    injection e with e
    omega
theorem hdCells_len (h : Hd) (cv : Value) : (hdCells h cv).length = 13 := rfl
theorem whenCells_len (a : Nat) (cv sv : Value) : (whenCells a cv sv).length = 13 := rfl
theorem Enc.len {w : World} {rb : Nat} {ok : Nat → Prop} : ∀ (l : Its) (vs : List Value), Enc w rb ok l vs → vs.length = l.len * 13
  | .nil, vs, e => by rw [show vs = [] from e]; rfl
  | .cons a l, vs, e => by
    obtain ⟨cv, us, h1, rfl, h3⟩ := e
    rw [List.length_append, hdCells_len, Enc.len l us h3, Its.len]; omega
  | .when a c b l, vs, e => by
    obtain ⟨cb, ga, cap, bs, us, h1, h2, h3, h4, rfl, h6⟩ := e
    rw [List.length_append, whenCells_len, Enc.len l us h6, Its.len]; omega
end Tm
end Go.Proofs.YtfdmgeloghpodaaDoor
end
section
/- What tmpl.item holds: the reader, the result's box, the item's box. -/
namespace Go.Proofs.YtfdmgeloghpodaaDoor
open Go.RowKit
set_option linter.unusedVariables false
set_option linter.unusedSimpArgs false
open Rd
/-- w0: the world at item's begin; yb: the result's box; xb: the item's box with the cells cs -/
structure ItSt (w0 w : World) (rb yb xb E : Nat) (R : List Rd.Tok) (ys cs : List Value) : Prop where
  gr : w0.grownBy w (some rb)
  env : Env w rb
  ylo : w0.heap.size ≤ yb
  xlo : w0.heap.size ≤ xb
  ne : xb ≠ yb
  lt : rb < w0.heap.size
  rd : Rdr w rb R E
  yrow : RowAt w yb 0 86 ys
  row : RowAt w xb 0 86 cs
  gy : ∃ wy : World, wy.heap.size ≤ xb ∧ RowAt wy yb 0 86 ys ∧ w0.grownBy wy (some rb) ∧ wy.grownBy w (some rb)
section
variable {w0 w w' : World} {rb yb xb E : Nat} {R R' : List Rd.Tok} {ys cs : List Value}
theorem ItSt.move (h : ItSt w0 w rb yb xb E R ys cs) (hr : Rdr w' rb R' E) (hg : w.grownBy w' (some rb)) : ItSt w0 w' rb yb xb E R' ys cs :=
  ⟨grownBy_trans h.gr hg, h.env.grown hg h.rd.lt, h.ylo, h.xlo, h.ne, h.lt, hr,
    h.yrow.of_heap (hg.block yb h.yrow.lt (fun e => by injection e with e; have := h.lt; have := h.ylo; omega)),
    h.row.of_heap (hg.block xb h.row.lt (fun e => by injection e with e; have := h.lt; have := h.xlo; omega)),
    by obtain ⟨wy, h1, h2, h3, h4⟩ := h.gy; exact ⟨wy, h1, h2, h3, grownBy_trans h4 hg⟩⟩
theorem env_set {w : World} {rb xb k : Nat} (h : Env w rb) (hx : rb ≤ xb) (v : Value) : Env (w.setCell ⟨xb, k, none⟩ v) rb := by
  have key : ∀ (p : Addr), p.block < rb → (w.setCell ⟨xb, k, none⟩ v).cell? p = w.cell? p := fun p hlt => World.cell?_of_block (Below.heap_setCell w ⟨xb, k, none⟩ v p.block (by show p.block ≠ xb; omega))
  refine ⟨⟨h.lv.1, fun k hk => ?_⟩, (key ⟨_, 0, none⟩ h.eb).trans h.er, h.eb⟩
  obtain ⟨gk, ck, h1, h2, h3⟩ := h.lv.2 k hk
  exact ⟨gk, ck, (key ⟨_, k, none⟩ h.lv.1).trans h1, h2, fun j hj => (key (gk.add j) (by rw [Addr.add_block]; exact h2)).trans (h3 j hj)⟩
theorem ItSt.set (h : ItSt w0 w rb yb xb E R ys cs) (k : Nat) (hk : k < cs.length) (v : Value) : ItSt w0 (w.setCell ⟨xb, k, none⟩ v) rb yb xb E R ys (cs.set k v) :=
  ⟨up_setX h.gr h.xlo _, env_set h.env (by have := h.lt; have := h.xlo; omega) v, h.ylo, h.xlo, h.ne, h.lt, h.rd.setX (by have := h.lt; have := h.xlo; omega) _,
    h.yrow.of_heap (Below.heap_setCell w ⟨xb, k, none⟩ v yb (fun e => h.ne e.symm)), h.row.set0 k hk v,
    by obtain ⟨wy, h1, h2, h3, h4⟩ := h.gy; exact ⟨wy, h1, h2, h3, up_setX h4 h1 _⟩⟩
theorem ItSt.cell (h : ItSt w0 w rb yb xb E R ys cs) (k : Nat) (hk : k < cs.length) : w.cell? ⟨xb, k, none⟩ = some cs[k] ∧ w.frozen? ⟨xb, k, none⟩ = false := ⟨h.row.cell0 k hk, h.row.frozen0 k hk⟩
def cells0 (a : Nat) : List Value := [.int .i64 0, .int .i64 (a : Nat), .string { data := #[] }, .string { data := #[] }, .int .i64 0, .int .i64 0, .bool false, .bool false, .pointer none, .int .i64 0, .string { data := #[] }, .string { data := #[] }, .slice none 0 0]
theorem ItSt.start (he : Env w rb) (hr : Rdr w rb R E) (a : Nat) : ItSt w ((w.alloc (.cells #[.int .i64 0, .int .i64 0, .string { data := #[] }, .string { data := #[] }, .int .i64 0, .int .i64 0, .bool false, .bool false, .pointer none, .int .i64 0, .string { data := #[] }, .string { data := #[] }, .slice none 0 0] 86)).alloc (.cells #[.int .i64 0, .int .i64 (a : Nat), .string { data := #[] }, .string { data := #[] }, .int .i64 0, .int .i64 0, .bool false, .bool false, .pointer none, .int .i64 0, .string { data := #[] }, .string { data := #[] }, .slice none 0 0] 86)) rb w.heap.size (w.heap.size + 1) E R (cells0 0) (cells0 a) := by
  have h1 := (Below.refl w.heap.size w).alloc (Nat.le_refl _) (.cells #[.int .i64 0, .int .i64 0, .string { data := #[] }, .string { data := #[] }, .int .i64 0, .int .i64 0, .bool false, .bool false, .pointer none, .int .i64 0, .string { data := #[] }, .string { data := #[] }, .slice none 0 0] 86)
  have h2 := h1.alloc (by simp) (.cells #[.int .i64 0, .int .i64 (a : Nat), .string { data := #[] }, .string { data := #[] }, .int .i64 0, .int .i64 0, .bool false, .bool false, .pointer none, .int .i64 0, .string { data := #[] }, .string { data := #[] }, .slice none 0 0] 86)
  have hg := below_grown h2 (some rb)
  refine ⟨hg, he.grown hg hr.lt, Nat.le_refl _, Nat.le_succ _, by omega, hr.lt, hr.below h2, ?_, ?_, ?_⟩
  · exact (RowAt.new w 86 (cells0 0).toArray).alloc _
  · have := RowAt.new (w.alloc (.cells (cells0 0).toArray 86)) 86 (cells0 a).toArray
    rw [World.size_alloc] at this
    exact this
  · refine ⟨w.alloc (.cells (cells0 0).toArray 86), by rw [World.size_alloc]; exact Nat.le_refl _, RowAt.new w 86 (cells0 0).toArray, below_grown h1 _, World.grownBy_alloc _ _ _⟩
/-- .. as tmpl.rule wants it, and back -/
theorem ItSt.rule (h : ItSt w0 w rb yb xb E R ys cs) {c : C10} (hc : cs = c.row 0 [] []) : ∃ wy : World, RuSt wy w rb xb E R c 0 [] [] ∧ w0.grownBy wy (some rb) ∧
    ∀ w' R' r f l, RuSt wy w' rb xb E R' c r f l → ItSt w0 w' rb yb xb E R' ys (c.row r f l) := by
  obtain ⟨wy, h1, h2, h3, h4⟩ := h.gy
  have hlt : rb < xb := by have := h.lt; have := h.xlo; omega
  refine ⟨wy, ⟨h4, h1, hlt, h.rd, by rw [← hc]; exact h.row⟩, h3, ?_⟩
  intro w' R' r f l hs
  have hrlt : rb < wy.heap.size := Nat.lt_of_lt_of_le h.lt h3.size
  have hyb : some yb ≠ some rb := fun e => by injection e with e; have := h.lt; have := h.ylo; omega
  refine ⟨grownBy_trans h3 hs.gr, ?_, h.ylo, h.xlo, h.ne, h.lt, hs.rd, h2.of_heap (hs.gr.block yb h2.lt hyb), hs.row, wy, h1, h2, h3, hs.gr⟩
  have key : ∀ (p : Addr), p.block < rb → w'.cell? p = w.cell? p := fun p hlt =>
    World.cell?_of_block ((hs.gr.block p.block (Nat.lt_trans hlt hrlt) (fun e => by injection e with e; omega)).trans (h4.block p.block (Nat.lt_trans hlt hrlt) (fun e => by injection e with e; omega)).symm)
  have he := h.env
  refine ⟨⟨he.lv.1, fun k hk => ?_⟩, (key ⟨_, 0, none⟩ he.eb).trans he.er, he.eb⟩
  obtain ⟨gk, ck, e1, e2, e3⟩ := he.lv.2 k hk
  exact ⟨gk, ck, (key ⟨_, k, none⟩ he.lv.1).trans e1, e2, fun j hj => (key (gk.add j) (by rw [Addr.add_block]; exact e2)).trans (e3 j hj)⟩
end
end Go.Proofs.YtfdmgeloghpodaaDoor
end
section
/- Items in memory: what stays, what stands one behind the other; the result's box filled. -/
namespace Go.Proofs.YtfdmgeloghpodaaDoor
open Go.RowKit
set_option linter.unusedVariables false
set_option linter.unusedSimpArgs false
open Rd
theorem RowAt.ty {w : World} {g o o' : Nat} {e e' : TypeId} {xs ys : List Value} (h : RowAt w g o e xs) (h' : RowAt w g o' e' ys) : e = e' := by
  obtain ⟨c, z, h1, _⟩ := h
  obtain ⟨c', z', h1', _⟩ := h'
  rw [h1] at h1'
  cases h1'
  rfl
/-- each block that holds an expression's node stays -/
def KeepX (w w' : World) (rb : Nat) : Prop := ∀ g xs, rb < g → RowAt w g 0 117 xs → w'.heap[g]? = w.heap[g]?
theorem IsX.keep {w w' : World} {rb : Nat} (hk : KeepX w w' rb) : ∀ (x : Ex.X) (b : Nat), IsX w rb b x → IsX w' rb b x
  | .num a n, b, h => ⟨h.1, h.2.of_heap (hk b _ h.1 h.2)⟩
  | .name a s, b, h => ⟨h.1, h.2.of_heap (hk b _ h.1 h.2)⟩
  | .bin a op l r, b, h => by
    obtain ⟨bl, br, h1, h2, h3, h4⟩ := h
    exact ⟨bl, br, h1, h2.of_heap (hk b _ h1 h2), IsX.keep hk l bl h3, IsX.keep hk r br h4⟩
namespace Tm
theorem CntV.keep {w w' : World} {rb : Nat} (hk : KeepX w w' rb) {c : Option Ex.X} {v : Value} (h : CntV w rb c v) : CntV w' rb c v := by
  cases c with
  | none => exact h
  | some x =>
    obtain ⟨b, h1, h2⟩ := h
    exact ⟨b, h1, IsX.keep hk x b h2⟩
theorem Enc.keep {w w' : World} {rb : Nat} {ok : Nat → Prop} (hk : KeepX w w' rb) (ho : ∀ b, ok b → w'.heap[b]? = w.heap[b]?) : ∀ (l : Its) (vs : List Value), Enc w rb ok l vs → Enc w' rb ok l vs
  | .nil, vs, e => e
  | .cons a l, vs, e => by
    obtain ⟨cv, us, h1, h2, h3⟩ := e
    exact ⟨cv, us, h1.keep hk, h2, Enc.keep hk ho l us h3⟩
  | .when a c b l, vs, e => by
    obtain ⟨cb, ga, cap, bs, us, h1, h2, h3, h4, h5, h6⟩ := e
    exact ⟨cb, ga, cap, bs, us, IsX.keep hk c cb h1, h2.keep fun x hx => ho _ (h3 x hx), h3, Enc.keep hk ho b bs h4, h5, Enc.keep hk ho l us h6⟩
theorem Enc.lt {w : World} {rb : Nat} {ok : Nat → Prop} : ∀ (l : Its) (vs : List Value), Enc w rb ok l vs → Enc w rb (fun b => ok b ∧ b < w.heap.size) l vs
  | .nil, vs, e => e
  | .cons a l, vs, e => by
    obtain ⟨cv, us, h1, h2, h3⟩ := e
    exact ⟨cv, us, h1, h2, Enc.lt l us h3⟩
  | .when a c b l, vs, e => by
    obtain ⟨cb, ga, cap, bs, us, h1, h2, h3, h4, h5, h6⟩ := e
    exact ⟨cb, ga, cap, bs, us, h1, h2, fun x hx => ⟨h3 x hx, h2.blk_lt x hx⟩, Enc.lt b bs h4, h5, Enc.lt l us h6⟩
theorem Enc.app {w : World} {rb : Nat} {ok : Nat → Prop} {m : Its} {us : List Value} (hm : Enc w rb ok m us) : ∀ (l : Its) (vs : List Value), Enc w rb ok l vs → Enc w rb ok (l.app m) (vs ++ us)
  | .nil, vs, e => by rw [show vs = [] from e]; exact hm
  | .cons a l, vs, e => by
    obtain ⟨cv, ys, h1, rfl, h3⟩ := e
    exact ⟨cv, ys ++ us, h1, by rw [List.append_assoc], Enc.app hm l ys h3⟩
  | .when a c b l, vs, e => by
    obtain ⟨cb, ga, cap, bs, ys, h1, h2, h3, h4, rfl, h6⟩ := e
    exact ⟨cb, ga, cap, bs, ys ++ us, h1, h2, h3, h4, by rw [List.append_assoc], Enc.app hm l ys h6⟩
/-- the cells of one item -/
theorem Enc.cells {w : World} {rb : Nat} {ok : Nat → Prop} {I : Its} {vs : List Value} (hI : I.len = 1) (h : Enc w rb ok I vs) : ∃ (k0 k1 k4 k5 k9 : Nat) (s2 s3 s10 s11 : ByteArray) (b6 b7 : Bool) (p8 a12 : Option Addr) (n12 c12 : Nat),
    vs = [.int .i64 (k0 : Nat), .int .i64 (k1 : Nat), .string s2, .string s3, .int .i64 (k4 : Nat), .int .i64 (k5 : Nat), .bool b6, .bool b7, .pointer p8, .int .i64 (k9 : Nat), .string s10, .string s11, .slice a12 n12 c12] := by
  have z : ∀ (l : Its) (us : List Value), l.len = 0 → Enc w rb ok l us → us = [] := by
    intro l us h1 h2
    cases l with
    | nil => exact h2
    | cons => simp [Its.len] at h1
    | when => simp [Its.len] at h1
  cases I with
  | nil => simp [Its.len] at hI
  | cons a l =>
    obtain ⟨cv, us, h1, rfl, h3⟩ := h
    rw [z l us (by simpa [Its.len] using hI) h3, List.append_nil]
    cases hc : a.cnt with
    | none => rw [hc] at h1; rw [show cv = .pointer none from h1]; exact ⟨_, _, _, _, _, _, _, _, _, _, _, _, _, _, _, rfl⟩
    | some x =>
      rw [hc] at h1
      obtain ⟨b, rfl, _⟩ := h1
      exact ⟨_, _, _, _, _, _, _, _, _, _, _, _, _, _, _, rfl⟩
  | when a c b l =>
    obtain ⟨cb, ga, cap, bs, us, h1, h2, h3, h4, rfl, h6⟩ := h
    rw [z l us (by simpa [Its.len] using hI) h6, List.append_nil]
    exact ⟨_, _, 0, 0, 0, _, _, _, _, _, _, _, _, _, _, rfl⟩
end Tm
/-- the result's box, stored -/
abbrev st13 (w : World) (b : Nat) (v0 v1 v2 v3 v4 v5 v6 v7 v8 v9 v10 v11 v12 : Value) : World :=
  (((((((((((((w.setCell ⟨b, 0, none⟩ v0).setCell ⟨b, 1, none⟩ v1).setCell ⟨b, 2, none⟩ v2).setCell ⟨b, 3, none⟩ v3).setCell ⟨b, 4, none⟩ v4).setCell ⟨b, 5, none⟩ v5).setCell ⟨b, 6, none⟩ v6).setCell ⟨b, 7, none⟩ v7).setCell ⟨b, 8, none⟩ v8).setCell ⟨b, 9, none⟩ v9).setCell ⟨b, 10, none⟩ v10).setCell ⟨b, 11, none⟩ v11).setCell ⟨b, 12, none⟩ v12)
theorem st13_row {w : World} {b : Nat} {T : TypeId} {ys : List Value} (h : RowAt w b 0 T ys) (hy : ys.length = 13) (v0 v1 v2 v3 v4 v5 v6 v7 v8 v9 v10 v11 v12 : Value) : RowAt (st13 w b v0 v1 v2 v3 v4 v5 v6 v7 v8 v9 v10 v11 v12) b 0 T [v0, v1, v2, v3, v4, v5, v6, v7, v8, v9, v10, v11, v12] := by
  match ys, hy with
  | [a0, a1, a2, a3, a4, a5, a6, a7, a8, a9, a10, a11, a12], _ =>
    exact ((((((((((((h.set0 0 (by simp) v0).set0 1 (by simp) v1).set0 2 (by simp) v2).set0 3 (by simp) v3).set0 4 (by simp) v4).set0 5 (by simp) v5).set0 6 (by simp) v6).set0 7 (by simp) v7).set0 8 (by simp) v8).set0 9 (by simp) v9).set0 10 (by simp) v10).set0 11 (by simp) v11).set0 12 (by simp) v12
theorem st13_far {w : World} {b : Nat} (v0 v1 v2 v3 v4 v5 v6 v7 v8 v9 v10 v11 v12 : Value) (g : Nat) (hg : g ≠ b) : (st13 w b v0 v1 v2 v3 v4 v5 v6 v7 v8 v9 v10 v11 v12).heap[g]? = w.heap[g]? := by
  have k : ∀ (W : World) (i : Nat) (v : Value), (W.setCell ⟨b, i, none⟩ v).heap[g]? = W.heap[g]? := fun W i v => Below.heap_setCell W ⟨b, i, none⟩ v g hg
  unfold st13
  iterate 13 rw [k]
theorem st13_size {w : World} {b : Nat} (v0 v1 v2 v3 v4 v5 v6 v7 v8 v9 v10 v11 v12 : Value) : (st13 w b v0 v1 v2 v3 v4 v5 v6 v7 v8 v9 v10 v11 v12).heap.size = w.heap.size := by
  unfold st13
  simp only [World.size_setCell]
theorem ItSt.setX {w0 w : World} {rb yb xb E : Nat} {R : List Rd.Tok} {ys cs : List Value} (h : ItSt w0 w rb yb xb E R ys cs) (k : Nat) (v : Value) {x : Ex.X} {b : Nat} (hx : IsX w rb b x) : IsX (w.setCell ⟨xb, k, none⟩ v) rb b x := by
  refine IsX.keep (fun g xs _ hg => Below.heap_setCell w ⟨xb, k, none⟩ v g ?_) x b hx
  rintro rfl
  exact absurd (h.row.ty hg) (by decide)
/-- item's end -/
theorem ItSt.fin {w0 w : World} {rb yb xb E : Nat} {R : List Rd.Tok} {ys cs : List Value} (h : ItSt w0 w rb yb xb E R ys cs) (hy : ys.length = 13) (v0 v1 v2 v3 v4 v5 v6 v7 v8 v9 v10 v11 v12 : Value) :
    Rdr (st13 w yb v0 v1 v2 v3 v4 v5 v6 v7 v8 v9 v10 v11 v12) rb R E ∧ w0.grownBy (st13 w yb v0 v1 v2 v3 v4 v5 v6 v7 v8 v9 v10 v11 v12) (some rb) ∧ KeepX w (st13 w yb v0 v1 v2 v3 v4 v5 v6 v7 v8 v9 v10 v11 v12) rb := by
  have hne : rb < yb := by have := h.lt; have := h.ylo; omega
  refine ⟨?_, ?_, ?_⟩
  · exact (((((((((((((h.rd.setX hne v0).setX hne v1).setX hne v2).setX hne v3).setX hne v4).setX hne v5).setX hne v6).setX hne v7).setX hne v8).setX hne v9).setX hne v10).setX hne v11).setX hne v12)
  · exact up_setX (up_setX (up_setX (up_setX (up_setX (up_setX (up_setX (up_setX (up_setX (up_setX (up_setX (up_setX (up_setX h.gr h.ylo v0) h.ylo v1) h.ylo v2) h.ylo v3) h.ylo v4) h.ylo v5) h.ylo v6) h.ylo v7) h.ylo v8) h.ylo v9) h.ylo v10) h.ylo v11) h.ylo v12
  · intro g xs _ hg
    refine st13_far _ _ _ _ _ _ _ _ _ _ _ _ _ g ?_
    rintro rfl
    have := h.yrow.ty hg
    exact absurd this (by decide)
/-- a cell of the item stored, then item's end: what stays -/
theorem ItSt.fin2 {w0 w : World} {rb yb xb E : Nat} {R : List Rd.Tok} {ys cs : List Value} (h : ItSt w0 w rb yb xb E R ys cs) (k : Nat) (v v0 v1 v2 v3 v4 v5 v6 v7 v8 v9 v10 v11 v12 : Value) :
    KeepX w (st13 (w.setCell ⟨xb, k, none⟩ v) yb v0 v1 v2 v3 v4 v5 v6 v7 v8 v9 v10 v11 v12) rb ∧ ∀ b, b ≠ xb → b ≠ yb → (st13 (w.setCell ⟨xb, k, none⟩ v) yb v0 v1 v2 v3 v4 v5 v6 v7 v8 v9 v10 v11 v12).heap[b]? = w.heap[b]? := by
  have hk : ∀ b, b ≠ xb → b ≠ yb → (st13 (w.setCell ⟨xb, k, none⟩ v) yb v0 v1 v2 v3 v4 v5 v6 v7 v8 v9 v10 v11 v12).heap[b]? = w.heap[b]? := fun b h1 h2 => (st13_far _ _ _ _ _ _ _ _ _ _ _ _ _ b h2).trans (Below.heap_setCell w ⟨xb, k, none⟩ v b h1)
  refine ⟨fun g xs _ hg => hk g ?_ ?_, hk⟩
  · rintro rfl; exact absurd (h.row.ty hg) (by decide)
  · rintro rfl; exact absurd (h.yrow.ty hg) (by decide)
end Go.Proofs.YtfdmgeloghpodaaDoor
end
section
/- How tmpl.item and tmpl.block end; Take as a choice. -/
namespace Go.Proofs.YtfdmgeloghpodaaDoor
open Go.RowKit
set_option linter.unusedVariables false
set_option linter.unusedSimpArgs false
open Rd
/-- how tmpl.item ends -/
def ItemOut (w0 : World) (rb E d : Nat) (T : List Rd.Tok) (e : Ending) (w' : World) : Prop :=
  (∃ I R cs, Tm.ItmP E d T I R ∧ e = .returned (.agg cs.toArray) ∧ Tm.Enc w' rb (fun b => w0.heap.size ≤ b) I cs ∧ Rdr w' rb R E ∧ w0.grownBy w' (some rb)) ∨ ((∀ I R, ¬ Tm.ItmP E d T I R) ∧ Bad w0 rb e w')
/-- how tmpl.block ends -/
def BlockOut (w0 : World) (rb E d : Nat) (T : List Rd.Tok) (e : Ending) (w' : World) : Prop :=
  (∃ l R ga cap bs, Tm.BlkP E d T l R ∧ e = .returned (.slice ga (Tm.Its.len l) cap) ∧ Owns w' w0.heap.size 86 13 ga (Tm.Its.len l) cap bs ∧ Tm.Enc w' rb (fun b => w0.heap.size ≤ b) l bs ∧ Rdr w' rb R E ∧ w0.grownBy w' (some rb)) ∨ ((∀ l R, ¬ Tm.BlkP E d T l R) ∧ Bad w0 rb e w')
def BlockC (rb E d : Nat) (T : List Rd.Tok) : Prop := ∀ w, Env w rb → Rdr w rb T E → Calls Tryd.prog 22 #[.pointer (some ⟨rb, 0, none⟩), .int .i64 (d : Nat)] w (BlockOut w rb E d T)
def ItemC (rb E d : Nat) (T : List Rd.Tok) : Prop := ∀ w, Env w rb → Rdr w rb T E → Calls Tryd.prog 36 #[.pointer (some ⟨rb, 0, none⟩), .int .i64 (d : Nat)] w (ItemOut w rb E d T)
/-- a token that may come -/
theorem take_any (w : World) (rb E : Nat) (T : List Rd.Tok) (m : Tm.Wd) (hm : m ≠ []) (hr : Rdr w rb T E) :
    Calls Tryd.prog 33 #[.pointer (some ⟨rb, 0, none⟩), .string (bstr m)] w fun e w' => (∃ t R, T = t :: R ∧ t.1 = m ∧ e = .returned (.bool true) ∧ Rdr w' rb R E ∧ w.grownBy w' (some rb)) ∨ (Tm.textOf T ≠ m ∧ e = .returned (.bool false) ∧ w' = w) := by
  have hto : textOf T = Tm.textOf T := by cases T <;> rfl
  by_cases h : Tm.textOf T = m
  · cases T with
    | nil => exact absurd h.symm hm
    | cons t R =>
      have h2 : t.1 = m := h
      subst h2
      exact (Take_yes rb t R E w hr hm).mono fun e w' h => .inl ⟨t, R, rfl, rfl, h⟩
  · exact (Take_no rb T E m w hr hm (by rw [hto]; exact h)).mono fun e w' g => .inr ⟨h, g⟩
end Go.Proofs.YtfdmgeloghpodaaDoor
end
