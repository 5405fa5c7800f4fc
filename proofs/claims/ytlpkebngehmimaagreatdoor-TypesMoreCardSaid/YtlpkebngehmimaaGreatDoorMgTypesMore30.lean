/- Structs in memory; what tmpl.Parse's loop holds. -/
import Derived.Test.YtlpkebngehmimaaGreatDoorMgTypesMore29
section
/- Structs in memory; what tmpl.Parse's loop holds. -/
namespace Go.Proofs.YtlpkebngehmimaaGreatDoor
open Go.RowKit
set_option linter.unusedVariables false
set_option linter.unusedSimpArgs false
open Rd
theorem infoType : (Tryz.prog.info? 33).map (fun i => (i.zero, i.size, i.bytes)) = some (some (.agg #[.string ByteArray.empty, .int .i64 0, .slice none 0 0]), 3, 48) := by kernel_rfl
/-- each block that holds items stays -/
def KeepI (w w' : World) (rb : Nat) : Prop := ∀ g xs, rb < g → RowAt w g 0 88 xs → w'.heap[g]? = w.heap[g]?
namespace Tm
theorem Enc.keep2 {w w' : World} {rb : Nat} {ok : Nat → Prop} (hk : KeepX w w' rb) (hi : KeepI w w' rb) : ∀ (l : Its) (vs : List Value), Enc w rb ok l vs → Enc w' rb ok l vs
  | .nil, vs, e => e
  | .cons a l, vs, e => by
    obtain ⟨cv, us, h1, h2, h3⟩ := e
    exact ⟨cv, us, h1.keep hk, h2, Enc.keep2 hk hi l us h3⟩
  | .when a c b l, vs, e => by
    obtain ⟨cb, ga, cap, bs, us, h1, h2, h3, h4, h5, h6⟩ := e
    refine ⟨cb, ga, cap, bs, us, IsX.keep hk c cb h1, h2.keep fun x hx => ?_, h3, Enc.keep2 hk hi b bs h4, h5, Enc.keep2 hk hi l us h6⟩
    subst hx
    exact hi _ _ (by have := h2.lt.1; omega) h2.row.2.2.2.2
theorem CntV.low {w : World} {rb rb' : Nat} (h : rb' ≤ rb) {c : Option Ex.X} {v : Value} (hc : CntV w rb c v) : CntV w rb' c v := by
  cases c with
  | none => exact hc
  | some x =>
    obtain ⟨b, h1, h2⟩ := hc
    exact ⟨b, h1, IsX.mono h x b h2⟩
theorem Enc.low {w : World} {rb rb' : Nat} {ok : Nat → Prop} (hb : rb' ≤ rb) : ∀ (l : Its) (vs : List Value), Enc w rb ok l vs → Enc w rb' ok l vs
  | .nil, vs, e => e
  | .cons a l, vs, e => by
    obtain ⟨cv, us, h1, h2, h3⟩ := e
    exact ⟨cv, us, h1.low hb, h2, Enc.low hb l us h3⟩
  | .when a c b l, vs, e => by
    obtain ⟨cb, ga, cap, bs, us, h1, h2, h3, h4, h5, h6⟩ := e
    exact ⟨cb, ga, cap, bs, us, IsX.mono hb c cb h1, h2.mono (by omega), h3, Enc.low hb b bs h4, h5, Enc.low hb l us h6⟩
/-- items that lie in blocks younger than rb -/
def EncI (w : World) (rb : Nat) (l : Its) (bs : List Value) : Prop := Enc w rb (fun _ => True) l bs
theorem EncI.of {w : World} {rb : Nat} {ok : Nat → Prop} {l : Its} {vs : List Value} (h : Enc w rb ok l vs) : EncI w rb l vs := Enc.mono (fun _ _ => trivial) l vs h
/-- structs as a row of cells -/
def EncT (w : World) (rb : Nat) : List Ty → List Value → Prop
  | [], vs => vs = []
  | t :: r, vs => ∃ ga cap bs us, Owns w (rb + 1) 88 13 ga t.items.len cap bs ∧ EncI w rb t.items bs ∧ vs = [.string (bstr t.name), .int .i64 (t.at_ : Nat), .slice ga t.items.len cap] ++ us ∧ EncT w rb r us
theorem EncT.keep {w w' : World} {rb : Nat} (hk : KeepX w w' rb) (hi : KeepI w w' rb) : ∀ (l : List Ty) (vs : List Value), EncT w rb l vs → EncT w' rb l vs
  | [], vs, e => e
  | t :: r, vs, e => by
    obtain ⟨ga, cap, bs, us, h1, h2, h3, h4⟩ := e
    refine ⟨ga, cap, bs, us, h1.keep fun x hx => ?_, Enc.keep2 hk hi _ _ h2, h3, EncT.keep hk hi r us h4⟩
    subst hx
    exact hi _ _ (by have := h1.lt.1; omega) h1.row.2.2.2.2
theorem EncT.low {w : World} {rb rb' : Nat} (hb : rb' ≤ rb) : ∀ (l : List Ty) (vs : List Value), EncT w rb l vs → EncT w rb' l vs
  | [], vs, e => e
  | t :: r, vs, e => by
    obtain ⟨ga, cap, bs, us, h1, h2, h3, h4⟩ := e
    exact ⟨ga, cap, bs, us, h1.mono (by omega), Enc.low hb _ _ h2, h3, EncT.low hb r us h4⟩
theorem EncT.app {w : World} {rb : Nat} {m : List Ty} {us : List Value} (hm : EncT w rb m us) : ∀ (l : List Ty) (vs : List Value), EncT w rb l vs → EncT w rb (l ++ m) (vs ++ us)
  | [], vs, e => by rw [show vs = [] from e]; exact hm
  | t :: r, vs, e => by
    obtain ⟨ga, cap, bs, ys, h1, h2, rfl, h4⟩ := e
    exact ⟨ga, cap, bs, ys ++ us, h1, h2, by rw [List.append_assoc], EncT.app hm r ys h4⟩
theorem keepX_grown {w w' : World} {rb : Nat} (hg : w.grownBy w' (some rb)) : KeepX w w' rb := fun g xs h hr => hg.block g hr.lt (fun e => by injection e with e; omega)
theorem keepI_grown {w w' : World} {rb : Nat} (hg : w.grownBy w' (some rb)) : KeepI w w' rb := fun g xs h hr => hg.block g hr.lt (fun e => by injection e with e; omega)
theorem EncT.grown {w w' : World} {rb : Nat} (hg : w.grownBy w' (some rb)) {l : List Ty} {vs : List Value} (h : EncT w rb l vs) : EncT w' rb l vs := EncT.keep (keepX_grown hg) (keepI_grown hg) l vs h
/-- a struct and the rest -/
theorem tys_split {E n : Nat} {T : List Rd.Tok} {L : List Ty} (h : Tys E n T L) : (T = [] ∧ L = []) ∨ (n < 8 ∧ ∃ t m U R ty l, T = t :: m :: U ∧ t.1 = wStruct ∧ nameB m.1 = true ∧ BlkP E 1 U ty R ∧ Tys E (n + 1) R l ∧ L = ⟨m.1, m.2, ty⟩ :: l) := by
  cases h with
  | fin => exact .inl ⟨rfl, rfl⟩
  | one h1 h2 h3 h4 h5 h6 => exact .inr ⟨h1, _, _, _, _, _, _, rfl, h2, h3, ⟨_, _, rfl, h4, by omega, h5⟩, h6, rfl⟩
theorem tys_one {E n : Nat} {t m : Rd.Tok} {U R : List Rd.Tok} {ty : Its} {l : List Ty} (h1 : n < 8) (h2 : t.1 = wStruct) (h3 : nameB m.1 = true) (h4 : BlkP E 1 U ty R) (h5 : Tys E (n + 1) R l) : Tys E n (t :: m :: U) (⟨m.1, m.2, ty⟩ :: l) := by
  obtain ⟨b, T2, rfl, g1, g2, g3⟩ := h4
  exact .one h1 h2 h3 g1 g3 h5
end Tm
structure TySt (w0 w : World) (rb E : Nat) (T2 T : List Rd.Tok) (ls : List Tm.Ty) (a : Option Addr) (cap : Nat) (vs : List Value) : Prop where
  gr : w0.grownBy w (some rb)
  env : Env w rb
  lt : rb < w0.heap.size
  rd : Rdr w rb T E
  own : Owns w w0.heap.size 33 3 a ls.length cap vs
  enc : Tm.EncT w rb ls vs
  few : ls.length ≤ 8
  fwd : ∀ m, Tm.Tys E ls.length T m → Tm.Tys E 0 T2 (ls ++ m)
  bwd : ∀ L, Tm.Tys E 0 T2 L → ∃ m, Tm.Tys E ls.length T m
  suf : T <:+ T2
/-- in a round: the struct's box -/
structure TbSt (w0 w : World) (rb tb E : Nat) (R : List Rd.Tok) (cs : List Value) : Prop where
  gr : w0.grownBy w (some rb)
  env : Env w rb
  lo : w0.heap.size ≤ tb
  lt : rb < w0.heap.size
  rd : Rdr w rb R E
  row : RowAt w tb 0 33 cs
section
variable {w0 w w' w1 w2 : World} {rb tb E : Nat} {T2 T R R' : List Rd.Tok} {ls : List Tm.Ty} {a : Option Addr} {cap : Nat} {vs cs : List Value}
theorem TbSt.move (h : TbSt w0 w rb tb E R cs) (hr : Rdr w' rb R' E) (hg : w.grownBy w' (some rb)) : TbSt w0 w' rb tb E R' cs :=
  ⟨grownBy_trans h.gr hg, h.env.grown hg h.rd.lt, h.lo, h.lt, hr, h.row.of_heap (hg.block tb h.row.lt (fun e => by injection e with e; have := h.lt; have := h.lo; omega))⟩
theorem TbSt.set (h : TbSt w0 w rb tb E R cs) (k : Nat) (hk : k < cs.length) (v : Value) : TbSt w0 (w.setCell ⟨tb, k, none⟩ v) rb tb E R (cs.set k v) :=
  ⟨up_setX h.gr h.lo _, env_set h.env (by have := h.lt; have := h.lo; omega) v, h.lo, h.lt, h.rd.setX (by have := h.lt; have := h.lo; omega) _, h.row.set0 k hk v⟩
theorem TbSt.cell (h : TbSt w0 w rb tb E R cs) (k : Nat) (hk : k < cs.length) : w.cell? ⟨tb, k, none⟩ = some cs[k] ∧ w.frozen? ⟨tb, k, none⟩ = false := ⟨h.row.cell0 k hk, h.row.frozen0 k hk⟩
theorem TbSt.start (he : Env w rb) (hr : Rdr w rb R E) (a : Nat) : TbSt w (w.alloc (.cells #[.string { data := #[] }, .int .i64 (a : Nat), .slice none 0 0] 33)) rb w.heap.size E R [.string { data := #[] }, .int .i64 (a : Nat), .slice none 0 0] := by
  have h1 := (Below.refl w.heap.size w).alloc (Nat.le_refl _) (.cells #[.string { data := #[] }, .int .i64 (a : Nat), .slice none 0 0] 33)
  exact ⟨below_grown h1 _, he.grown (below_grown h1 _) hr.lt, Nat.le_refl _, hr.lt, hr.below h1, RowAt.new w 33 #[.string { data := #[] }, .int .i64 (a : Nat), .slice none 0 0]⟩
theorem TySt.start (he : Env w rb) (hr : Rdr w rb T E) : TySt w w rb E T T [] none 0 [] :=
  ⟨grown_refl _ _, he, hr.lt, hr, Owns.nil _ _ _ _, rfl, by simp, fun m h => h, fun L h => ⟨L, h⟩, List.suffix_refl _⟩
/-- a store in the struct's box leaves items and expressions -/
theorem TbSt.keeps (h : TbSt w0 w rb tb E R cs) (k : Nat) (v : Value) : KeepX w (w.setCell ⟨tb, k, none⟩ v) rb ∧ KeepI w (w.setCell ⟨tb, k, none⟩ v) rb := by
  refine ⟨fun g xs _ hg => Below.heap_setCell w ⟨tb, k, none⟩ v g ?_, fun g xs _ hg => Below.heap_setCell w ⟨tb, k, none⟩ v g ?_⟩
  · rintro rfl; exact absurd (h.row.ty hg) (by decide)
  · rintro rfl; exact absurd (h.row.ty hg) (by decide)
/-- a struct more: st is the state at the round's begin, w1 the world ahead of the append -/
theorem TySt.push {t m : Rd.Tok} {U : List Rd.Tok} {ty : Tm.Its} {ga : Option Addr} {cb : Nat} {bs : List Value} (h : TySt w0 w rb E T2 (t :: m :: U) ls a cap vs) (hn : ls.length < 8) (ht : t.1 = Tm.wStruct) (hm : Tm.nameB m.1 = true) (hp : Tm.BlkP E 1 U ty R)
    (hr : Rdr w1 rb R E) (hg : w.grownBy w1 (some rb)) (ho : Owns w1 (rb + 1) 88 13 ga (Tm.Its.len ty) cb bs) (hen : Tm.EncI w1 rb ty bs)
    {a' : Option Addr} {cap' : Nat} (hown : Owns w2 w0.heap.size 33 3 a' (ls.length + 1) cap' (vs ++ [.string (bstr m.1), .int .i64 (m.2 : Nat), .slice ga (Tm.Its.len ty) cb])) (hgr : w1.grownBy w2 (blk a)) :
    TySt w0 w2 rb E T2 R (ls ++ [⟨m.1, m.2, ty⟩]) a' cap' (vs ++ [.string (bstr m.1), .int .i64 (m.2 : Nat), .slice ga (Tm.Its.len ty) cb]) := by
  have hoa : ∀ x, a = some x → w0.heap.size ≤ x.block ∧ x.block < w.heap.size := fun x hx => by have ho := h.own; subst hx; exact ho.lt
  have hkeep : ∀ b, b < w1.heap.size → (∀ x, a = some x → b ≠ x.block) → w2.heap[b]? = w1.heap[b]? := fun b hb hne => hgr.block b hb (fun e => by
    cases ha : a with
    | none => rw [ha] at e; simp [blk] at e
    | some x => rw [ha] at e; simp only [blk, Option.map_some] at e; injection e with e; exact hne x ha e)
  have hlt := h.lt
  have hs1 : w.heap.size ≤ w1.heap.size := hg.size
  have hlow : ∀ b, b < w0.heap.size → w2.heap[b]? = w1.heap[b]? := fun b hb => hkeep b (Nat.lt_of_lt_of_le hb (Nat.le_trans h.gr.size hg.size)) (fun x hx => by have := hoa x hx; omega)
  have ht' : ∀ x, a = some x → ∀ e, e ≠ 33 → ∀ xs, RowAt w1 x.block 0 e xs → False := fun x hx e he xs hrow => by
    have ho := (h.own.grown hg (fun y hy e => by injection e with e; have := hoa y hy; omega))
    subst hx
    exact he (ho.row.2.2.2.2.ty hrow).symm
  have hkx : KeepX w1 w2 rb := fun g xs _ hrow => hkeep g hrow.lt (fun x hx e => ht' x hx _ (by decide) xs (e ▸ hrow))
  have hki : KeepI w1 w2 rb := fun g xs _ hrow => hkeep g hrow.lt (fun x hx e => ht' x hx _ (by decide) xs (e ▸ hrow))
  have hs2 : w1.heap.size ≤ w2.heap.size := hgr.size
  refine ⟨?_, env_keep (h.env.grown hg h.rd.lt) (fun b hb => hlow b (by omega)), hlt, hr.keep (fun b hb => hlow b (by omega)), by rw [List.length_append]; exact hown, ?_, by rw [List.length_append]; simp; omega, ?_, ?_, ?_⟩
  · have h1 := grownBy_trans h.gr hg
    exact ⟨hgr.os.trans h1.os, hgr.tape.trans h1.tape, hgr.output.trans h1.output, by have := h1.size; omega, fun b hb hne => (hlow b hb).trans (h1.block b hb hne)⟩
  · refine Tm.EncT.app ?_ ls vs (Tm.EncT.keep hkx hki ls vs (Tm.EncT.grown hg h.enc))
    refine ⟨ga, cb, bs, [], ho.keep fun x hx => ?_, Tm.Enc.keep2 hkx hki _ _ hen, rfl, rfl⟩
    subst hx
    exact hki _ _ (by have := ho.lt.1; omega) ho.row.2.2.2.2
  · intro l hl
    rw [List.length_append] at hl
    rw [List.append_assoc]
    exact h.fwd _ (Tm.tys_one hn ht hm hp hl)
  · intro L hL
    obtain ⟨l, hl⟩ := h.bwd L hL
    rcases Tm.tys_split hl with ⟨h1, _⟩ | ⟨_, t', m', U', R', ty', l', h1, h2, h3, h4, h5, h6⟩
    · cases h1
    · cases h1
      obtain ⟨rfl, rfl⟩ := hp.det h4
      rw [List.length_append]
      exact ⟨l', h5⟩
  · exact (hp.suf.1.trans ((List.suffix_cons _ _).trans (List.suffix_cons _ _))).trans h.suf
/-- no reading, as this step fails -/
theorem TySt.stuck (h : TySt w0 w rb E T2 T ls a cap vs) (hne : T ≠ []) (hno : ls.length < 8 → ∀ t m U R ty, T = t :: m :: U → t.1 = Tm.wStruct → Tm.nameB m.1 = true → Tm.BlkP E 1 U ty R → False) : ∀ L, ¬ Tm.Tys E 0 T2 L := by
  intro L hL
  obtain ⟨l, hl⟩ := h.bwd L hL
  rcases Tm.tys_split hl with ⟨h1, _⟩ | ⟨h0, t, m, U, R, ty, l', h1, h2, h3, h4, _⟩
  · exact hne h1
  · exact hno h0 t m U R ty h1 h2 h3 h4
theorem TySt.done (h : TySt w0 w rb E T2 [] ls a cap vs) : Tm.Tys E 0 T2 ls := by
  have := h.fwd [] .fin
  rwa [List.append_nil] at this
end
end Go.Proofs.YtlpkebngehmimaaGreatDoor
end
