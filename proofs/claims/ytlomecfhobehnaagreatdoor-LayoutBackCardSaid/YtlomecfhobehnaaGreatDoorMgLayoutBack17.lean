/- layout's reader: what it throws; take, node. -/
import Derived.Test.YtlomecfhobehnaaGreatDoorMgLayoutBack16
import Derived.Test.YtlomecfhobehnaaGreatDoorMgLayoutBack14
import Derived.Test.YtlomecfhobehnaaGreatDoorMgLayoutBack15
section
/- A text as templates have it: read as a tree, written again, in plain words. -/
namespace Go.Proofs.YtlomecfhobehnaaGreatDoor
set_option linter.unusedVariables false
set_option linter.unusedSimpArgs false
namespace Ly
open Ex (X Names ev)
open Tm
/-- nodes, one behind the other -/
inductive Nds where
  | nil
  | cons (name : Wd) (kind at_ size : Nat) (val : Int) (text : Wd) (kids rest : Nds)
structure Nd where
  name : Wd
  kind : Nat
  at_ : Nat
  size : Nat
  val : Int
  text : Wd
  kids : Nds
def Nd.put (d : Nd) (r : Nds) : Nds := .cons d.name d.kind d.at_ d.size d.val d.text d.kids r
def Nds.app : Nds → Nds → Nds
  | .nil, m => m
  | .cons a b c d e f g r, m => .cons a b c d e f g (r.app m)
def Nds.len : Nds → Nat
  | .nil => 0
  | .cons _ _ _ _ _ _ _ r => r.len + 1
theorem Nds.app_nil : ∀ l : Nds, l.app .nil = l
  | .nil => rfl
  | .cons _ _ _ _ _ _ _ r => by show Nds.cons _ _ _ _ _ _ _ (r.app .nil) = _; rw [Nds.app_nil r]
theorem Nds.app_assoc : ∀ l m k : Nds, (l.app m).app k = l.app (m.app k)
  | .nil, _, _ => rfl
  | .cons _ _ _ _ _ _ _ r, m, k => by show Nds.cons _ _ _ _ _ _ _ ((r.app m).app k) = Nds.cons _ _ _ _ _ _ _ (r.app (m.app k)); rw [Nds.app_assoc r]
/-- where a reader stands, and how many nodes there are -/
structure St where
  at_ : Nat
  n : Nat
def nod (st : St) : Option St := if st.n = 400 then none else some ⟨st.at_, st.n + 1⟩
def tak (s : Wd) (k : Int) (st : St) : Option (Wd × St) := if k < 0 ∨ (s.length : Int) - (st.at_ : Int) < k then none else some ((s.drop st.at_).take k.toNat, ⟨st.at_ + k.toNat, st.n⟩)
def widW (w : Wd) : Nat := ((kindOf w).getD (0, 0, false)).1
def ordW (w : Wd) : Nat := ((kindOf w).getD (0, 0, false)).2.1
def sgdW (w : Wd) : Bool := ((kindOf w).getD (0, 0, false)).2.2
def valW (w u : Wd) : Int := if sgdW w then sgnI (getN u 0 (widW w) (ordW w) (widW w)) (widW w) else ((getN u 0 (widW w) (ordW w) (widW w) : Nat) : Int)
def putW (w : Wd) (v : Int) : Wd := putB (u64N v) (widW w) (ordW w)
def fitsW (w : Wd) (v : Int) : Bool := if sgdW w then decide (sgnI (u64N v) (widW w) = v) else decide (0 ≤ v) && decide (unsN (u64N v) (widW w) = u64N v)
def kNo : Knd → Nat
  | .scalar _ => 1
  | .bytes => 2
  | .struct _ => 3
def upd (N : Names) (w : Wd) (v : Int) : Names := fun x => if x = w then some v else N x
abbrev Sub := Wd → St → Option (Nds × St)
def oneH (S : Sub) (s : Wd) (N : Names) (h : Hd) (st : St) : Option (Nd × St) :=
  (nod st).bind fun st1 => match h.k with
  | .scalar w => (tak s (widW w : Nat) st1).map fun p => (⟨h.name, 1, st.at_, p.2.at_ - st.at_, valW w p.1, [], .nil⟩, p.2)
  | .bytes => (h.cnt.bind (ev N)).bind fun k => (tak s k st1).map fun p => (⟨h.name, 2, st.at_, p.2.at_ - st.at_, 0, p.1, .nil⟩, p.2)
  | .struct t => (S t st1).map fun p => (⟨h.name, 3, st.at_, p.2.at_ - st.at_, 0, [], p.1⟩, p.2)
def rep (f : St → Option (Nd × St)) : Nat → St → Option (Nds × St)
  | 0, st => some (.nil, st)
  | k + 1, st => (f st).bind fun p => (rep f k p.2).map fun q => (p.1.put q.1, q.2)
def lstH (S : Sub) (s : Wd) (N : Names) (h : Hd) (st : St) : Option (Nd × St) :=
  (nod st).bind fun st1 => (h.cnt.bind (ev N)).bind fun k => if k < 0 then none else (rep (oneH S s N h) k.toNat st1).map fun p => (⟨h.name, 9, st.at_, p.2.at_ - st.at_, 0, [], p.1⟩, p.2)
def hdR (S : Sub) (s : Wd) (N : Names) (h : Hd) (st : St) : Option (Nd × St) := if manyH h then lstH S s N h st else oneH S s N h st
def itsR (S : Sub) (s : Wd) : Its → Names → St → Option (Nds × Names × St)
  | .nil, N, st => some (.nil, N, st)
  | .cons h l, N, st => (hdR S s N h st).bind fun p => (itsR S s l (if single h then upd N h.name p.1.val else N) p.2).map fun q => (p.1.put q.1, q.2)
  | .when _ c b l, N, st => (nod st).bind fun st1 => (ev N c).bind fun v =>
      (if v = 0 then some (Nds.nil, N, st1) else itsR S s b N st1).bind fun p =>
        (itsR S s l p.2.1 p.2.2).map fun q => (Nds.cons [] 4 st.at_ (p.2.2.at_ - st.at_) (if v = 0 then 0 else 1) [] p.1 q.1, q.2)
/-- structs by their names, the last one first -/
def rdS (s : Wd) : List Ty → Sub
  | [], _, _ => none
  | t :: r, nm, st => if t.name = nm then (itsR (rdS s r) s t.items (fun _ => none) st).map fun p => (p.1, p.2.2) else rdS s r nm st
/-! ## written -/
abbrev Wri := Wd → Nds → Option Wd
def oneW (W : Wri) (h : Hd) (d : Nd) : Option Wd := if d.name ≠ h.name ∨ d.kind ≠ kNo h.k then none else match h.k with
  | .scalar w => if fitsW w d.val then some (putW w d.val) else none
  | .bytes => some d.text
  | .struct t => W t d.kids
def repW (f : Nd → Option Wd) : Nds → Option Wd
  | .nil => some []
  | .cons a b c d e g k r => (f ⟨a, b, c, d, e, g, k⟩).bind fun u => (repW f r).map (u ++ ·)
def partW (W : Wri) (h : Hd) (d : Nd) : Option Wd := if manyH h then (if d.name ≠ h.name ∨ d.kind ≠ 9 then none else repW (oneW W h) d.kids) else oneW W h d
def itsW (W : Wri) : Its → Nds → Option Wd
  | .nil, .nil => some []
  | .cons h l, .cons a b c d e g k r => (partW W h ⟨a, b, c, d, e, g, k⟩).bind fun u => (itsW W l r).map (u ++ ·)
  | .when _ _ body l, .cons a b _ _ e _ k r => if a ≠ [] ∨ b ≠ 4 then none else
      (if e = 0 then (match k with | .nil => some [] | _ => none) else itsW W body k).bind fun u => (itsW W l r).map (u ++ ·)
  | _, _ => none
def wrS : List Ty → Wri
  | [], _, _ => none
  | t :: r, nm, ks => if t.name = nm then itsW (wrS r) t.items ks else wrS r nm ks
/-! ## what is read is written -/
def seg (s : Wd) (i j : Nat) : Wd := (s.drop i).take (j - i)
theorem seg_app (s : Wd) {i j k : Nat} (h1 : i ≤ j) (h2 : j ≤ k) : seg s i j ++ seg s j k = seg s i k := by
  unfold seg
  have e : s.drop j = (s.drop i).drop (j - i) := by rw [List.drop_drop]; congr 1; omega
  rw [e, show k - i = (j - i) + (k - j) by omega, List.take_add]
theorem seg_nil (s : Wd) (i : Nat) : seg s i i = [] := by unfold seg; simp
/-- a step of the reader -/
structure Step (s : Wd) (st st' : St) : Prop where
  le : st.at_ ≤ st'.at_
  len : st'.at_ ≤ s.length
theorem nod_at {st st1 : St} (h : nod st = some st1) : st1.at_ = st.at_ := by
  unfold nod at h
  split at h
  · cases h
  · cases h; rfl
theorem tak_ok {s : Wd} {k : Int} {st st2 : St} {u : Wd} (h : tak s k st = some (u, st2)) (ha : st.at_ ≤ s.length) : Step s st st2 ∧ u = seg s st.at_ st2.at_ ∧ u.length = k.toNat := by
  unfold tak at h
  split at h
  · cases h
  · rename_i hn
    rw [not_or] at hn
    cases h
    refine ⟨⟨by simp, by simp; omega⟩, ?_, ?_⟩
    · unfold seg; simp
    · rw [List.length_take, List.length_drop]; omega
end Ly
end Go.Proofs.YtlomecfhobehnaaGreatDoor
end
section
/- layout: trees, the reader and the names in memory. -/
namespace Go.Proofs.YtlomecfhobehnaaGreatDoor
open Go Go.RowKit Go.Maps Go.WideElems Go.ChangeMaps Go.WideMaps
set_option linter.unusedVariables false
set_option linter.unusedSimpArgs false
open Rd
namespace Ly
open Tm
/-! ## what is kept -/
/-- all is as it was, but the block b, and the block m -/
structure But (w w' : World) (b : Nat) (m : Option Nat) : Prop where
  os : w'.os = w.os
  tape : w'.tape = w.tape
  output : w'.output = w.output
  size : w.heap.size ≤ w'.heap.size
  block : ∀ k, k < w.heap.size → k ≠ b → some k ≠ m → w'.heap[k]? = w.heap[k]?
theorem But.refl (w : World) (b : Nat) (m : Option Nat) : But w w b m := ⟨rfl, rfl, rfl, Nat.le_refl _, fun _ _ _ _ => rfl⟩
theorem But.trans {w w' w'' : World} {b : Nat} {m : Option Nat} (h : But w w' b m) (k : But w' w'' b m) : But w w'' b m :=
  ⟨k.os.trans h.os, k.tape.trans h.tape, k.output.trans h.output, Nat.le_trans h.size k.size, fun i hi h1 h2 => (k.block i (Nat.lt_of_lt_of_le hi h.size) h1 h2).trans (h.block i hi h1 h2)⟩
theorem But.of_below {w w' : World} {b : Nat} {m : Option Nat} (h : Below w.heap.size w w') : But w w' b m := ⟨h.os, h.tape, h.output, h.size, fun k hk _ _ => h.block k hk⟩
theorem But.of_grown {w w' : World} {b : Nat} {m : Option Nat} (h : w.grownBy w' (some b)) : But w w' b m := ⟨h.os, h.tape, h.output, h.size, fun k hk h1 _ => h.block k hk (fun e => by injection e with e; exact h1 e)⟩
theorem But.of_grownM {w w' : World} {b m : Nat} (h : w.grownBy w' (some m)) : But w w' b (some m) := ⟨h.os, h.tape, h.output, h.size, fun k hk _ h2 => h.block k hk h2⟩
/-- a store into the block b -/
theorem But.setCell {w : World} {b : Nat} {m : Option Nat} (o : Nat) (u : Value) : But w (w.setCell ⟨b, o, none⟩ u) b m :=
  ⟨rfl, rfl, rfl, by simp [World.setCell], fun k _ h _ => Below.heap_setCell _ _ _ _ h⟩
theorem But.drew {w w' : World} {b : Nat} {m : Option Nat} (h : But w w' b m) : But w w'.drew b m := ⟨h.os, h.tape, h.output, h.size, h.block⟩
/-- .. of a fresh map, it is nothing that was there -/
theorem But.fresh {w w' : World} {b g : Nat} {m : Option Nat} (h : But w w' b (some g)) (hg : w.heap.size ≤ g) : But w w' b m := ⟨h.os, h.tape, h.output, h.size, fun k hk h1 _ => h.block k hk h1 (fun e => by injection e with e; omega)⟩
theorem But.wide {w w' : World} {b : Nat} {m : Option Nat} (h : But w w' b none) : But w w' b m := ⟨h.os, h.tape, h.output, h.size, fun k hk h1 _ => h.block k hk h1 (fun e => by cases e)⟩
theorem But.below {B b : Nat} {m : Option Nat} {w0 w w' : World} (h : Below B w0 w) (k : But w w' b m) (hB : B ≤ w.heap.size) (hb : B ≤ b) (hm : ∀ x, m = some x → B ≤ x) : Below B w0 w' :=
  h.trans ⟨k.os, k.tape, k.output, k.size, fun i hi => k.block i (by omega) (by omega) (fun e => by have := hm i e.symm; omega)⟩
/-! ## trees -/
def ndCells (name : Wd) (kind at_ size : Nat) (val : Int) (text : Wd) (sv : Value) : List Value :=
  [.string (bstr name), .int .i64 (kind : Nat), .int .i64 (at_ : Nat), .int .i64 (size : Nat), .int .i64 val, .string (bstr text), sv]
/-- the block of a slice -/
def blkL (a : Option Addr) : List Nat := match a with
  | none => []
  | some x => [x.block]
theorem mem_blkL {a : Option Addr} {g : Nat} (h : g ∈ blkL a) : ∃ x, a = some x ∧ g = x.block := by
  cases a with
  | none => cases h
  | some x => exact ⟨x, rfl, by simpa [blkL] using h⟩
/-- nodes as a row of cells; their kids lie in rows of their own, in the blocks bl -/
def EncN (w : World) (B : Nat) : Nds → List Nat → List Value → Prop
  | .nil, bl, vs => vs = [] ∧ bl = []
  | .cons nm kd a sz v tx ks r, bl, vs => ∃ ga cap bs us b1 b2, bl = blkL ga ++ (b1 ++ b2) ∧ Owns w B 28 7 ga ks.len cap bs ∧ EncN w B ks b1 bs ∧ vs = ndCells nm kd a sz v tx (.slice ga ks.len cap) ++ us ∧ EncN w B r b2 us
theorem EncN.keep {w w' : World} {B : Nat} : ∀ (l : Nds) (bl : List Nat) (vs : List Value), (∀ b ∈ bl, w'.heap[b]? = w.heap[b]?) → EncN w B l bl vs → EncN w' B l bl vs
  | .nil, _, vs, _, e => e
  | .cons nm kd a sz v tx ks r, bl, vs, h, e => by
    obtain ⟨ga, cap, bs, us, b1, b2, rfl, h1, h3, h4, h5⟩ := e
    exact ⟨ga, cap, bs, us, b1, b2, rfl, h1.keep fun x hx => h _ (by subst hx; simp [blkL]), EncN.keep ks b1 bs (fun b hb => h b (by simp [hb])) h3, h4, EncN.keep r b2 us (fun b hb => h b (by simp [hb])) h5⟩
theorem EncN.low {w : World} {B B' : Nat} (hb : B' ≤ B) : ∀ (l : Nds) (bl : List Nat) (vs : List Value), EncN w B l bl vs → EncN w B' l bl vs
  | .nil, _, vs, e => e
  | .cons nm kd a sz v tx ks r, bl, vs, e => by
    obtain ⟨ga, cap, bs, us, b1, b2, h0, h1, h3, h4, h5⟩ := e
    exact ⟨ga, cap, bs, us, b1, b2, h0, h1.mono hb, EncN.low hb ks b1 bs h3, h4, EncN.low hb r b2 us h5⟩
theorem EncN.len {w : World} {B : Nat} : ∀ (l : Nds) (bl : List Nat) (vs : List Value), EncN w B l bl vs → vs.length = l.len * 7
  | .nil, _, vs, e => by rw [e.1]; rfl
  | .cons nm kd a sz v tx ks r, bl, vs, e => by
    obtain ⟨ga, cap, bs, us, b1, b2, h0, h1, h3, rfl, h5⟩ := e
    rw [List.length_append, EncN.len r b2 us h5, Nds.len]
    show 7 + r.len * 7 = _
    omega
theorem EncN.mem {w : World} {B : Nat} : ∀ (l : Nds) (bl : List Nat) (vs : List Value), EncN w B l bl vs → ∀ b ∈ bl, B ≤ b ∧ b < w.heap.size
  | .nil, bl, vs, e, b, hb => by rw [e.2] at hb; cases hb
  | .cons nm kd a sz v tx ks r, bl, vs, e, b, hb => by
    obtain ⟨ga, cap, bs, us, b1, b2, rfl, h1, h3, rfl, h5⟩ := e
    rcases List.mem_append.1 hb with h | h
    · obtain ⟨x, rfl, rfl⟩ := mem_blkL h
      exact h1.lt
    · rcases List.mem_append.1 h with h | h
      · exact EncN.mem ks b1 bs h3 b h
      · exact EncN.mem r b2 us h5 b h
theorem EncN.app {w : World} {B : Nat} {m : Nds} {bm : List Nat} {us : List Value} (hm : EncN w B m bm us) : ∀ (l : Nds) (bl : List Nat) (vs : List Value), EncN w B l bl vs → EncN w B (l.app m) (bl ++ bm) (vs ++ us)
  | .nil, bl, vs, e => by rw [e.1, e.2]; exact hm
  | .cons nm kd a sz v tx ks r, bl, vs, e => by
    obtain ⟨ga, cap, bs, ys, b1, b2, rfl, h1, h3, rfl, h5⟩ := e
    exact ⟨ga, cap, bs, ys ++ us, b1, b2 ++ bm, by simp only [List.append_assoc], h1, h3, by rw [List.append_assoc], EncN.app hm r b2 ys h5⟩
theorem Nds.len_app : ∀ l m : Nds, (l.app m).len = l.len + m.len
  | .nil, m => by show m.len = 0 + m.len; omega
  | .cons _ _ _ _ _ _ _ r, m => by show (r.app m).len + 1 = r.len + 1 + m.len; rw [Nds.len_app r m]; omega
/-- a node as a value; its kids lie in the blocks bl -/
def NdV (w : World) (B : Nat) (bl : List Nat) (d : Nd) (v : Value) : Prop := ∃ ga cap bs b1, v = .agg (ndCells d.name d.kind d.at_ d.size d.val d.text (.slice ga d.kids.len cap)).toArray ∧ bl = blkL ga ++ b1 ∧ Owns w B 28 7 ga d.kids.len cap bs ∧ EncN w B d.kids b1 bs
/-- kids in a row of their own -/
structure KidsV (w : World) (B : Nat) (ks : Nds) (ga : Option Addr) (cap : Nat) (bl : List Nat) (vs : List Value) : Prop where
  own : Owns w B 28 7 ga ks.len cap vs
  enc : EncN w B ks bl vs
  nodup : (blkL ga ++ bl).Nodup
theorem KidsV.nil (w : World) (B : Nat) : KidsV w B .nil none 0 [] [] := ⟨Owns.nil _ _ _ _, ⟨rfl, rfl⟩, by simp [blkL]⟩
theorem KidsV.mem {w : World} {B : Nat} {ks : Nds} {ga : Option Addr} {cap : Nat} {bl : List Nat} {vs : List Value} (h : KidsV w B ks ga cap bl vs) : ∀ b ∈ blkL ga ++ bl, B ≤ b ∧ b < w.heap.size := by
  intro b hb
  rcases List.mem_append.1 hb with h1 | h1
  · obtain ⟨x, rfl, rfl⟩ := mem_blkL h1
    exact h.own.lt
  · exact h.enc.mem _ _ _ b h1
theorem KidsV.keep {w w' : World} {B : Nat} {ks : Nds} {ga : Option Addr} {cap : Nat} {bl : List Nat} {vs : List Value} (h : KidsV w B ks ga cap bl vs) (hk : ∀ b, B ≤ b → b < w.heap.size → w'.heap[b]? = w.heap[b]?) : KidsV w' B ks ga cap bl vs :=
  ⟨h.own.keep fun x hx => by have ho := h.own; subst hx; exact hk _ ho.lt.1 ho.lt.2, h.enc.keep _ _ _ (fun b hb => by have := h.enc.mem _ _ _ b hb; exact hk b this.1 this.2), h.nodup⟩
theorem KidsV.low {w : World} {B B' : Nat} {ks : Nds} {ga : Option Addr} {cap : Nat} {bl : List Nat} {vs : List Value} (h : KidsV w B ks ga cap bl vs) (hb : B' ≤ B) : KidsV w B' ks ga cap bl vs := ⟨h.own.mono hb, h.enc.low hb _ _ _, h.nodup⟩
/-- a node's value and its kids -/
theorem KidsV.nd {w : World} {B : Nat} {ks : Nds} {ga : Option Addr} {cap : Nat} {bl : List Nat} {vs : List Value} (h : KidsV w B ks ga cap bl vs) (nm : Wd) (kd a sz : Nat) (v : Int) (tx : Wd) :
    NdV w B (blkL ga ++ bl) ⟨nm, kd, a, sz, v, tx, ks⟩ (.agg (ndCells nm kd a sz v tx (.slice ga ks.len cap)).toArray) := ⟨ga, cap, vs, bl, rfl, rfl, h.own, h.enc⟩
theorem NdV.leaf (w : World) (B : Nat) (nm : Wd) (kd a sz : Nat) (v : Int) (tx : Wd) : NdV w B [] ⟨nm, kd, a, sz, v, tx, .nil⟩ (.agg (ndCells nm kd a sz v tx (.slice none 0 0)).toArray) := (KidsV.nil w B).nd nm kd a sz v tx
theorem NdV.mem {w : World} {B : Nat} {bl : List Nat} {d : Nd} {v : Value} (h : NdV w B bl d v) : ∀ b ∈ bl, B ≤ b ∧ b < w.heap.size := by
  obtain ⟨ga, cap, bs, b1, _, rfl, h1, h2⟩ := h
  intro b hb
  rcases List.mem_append.1 hb with h3 | h3
  · obtain ⟨x, rfl, rfl⟩ := mem_blkL h3
    exact h1.lt
  · exact h2.mem _ _ _ b h3
theorem NdV.keep {w w' : World} {B : Nat} {bl : List Nat} {d : Nd} {v : Value} (h : NdV w B bl d v) (hk : ∀ b ∈ bl, w'.heap[b]? = w.heap[b]?) : NdV w' B bl d v := by
  obtain ⟨ga, cap, bs, b1, e, rfl, h1, h2⟩ := h
  exact ⟨ga, cap, bs, b1, e, rfl, h1.keep fun x hx => hk _ (by subst hx; simp [blkL]), h2.keep _ _ _ (fun b hb => hk b (by simp [hb]))⟩
theorem NdV.low {w : World} {B B' : Nat} {bl : List Nat} {d : Nd} {v : Value} (h : NdV w B bl d v) (hb : B' ≤ B) : NdV w B' bl d v := by
  obtain ⟨ga, cap, bs, b1, e, e2, h1, h2⟩ := h
  exact ⟨ga, cap, bs, b1, e, e2, h1.mono hb, h2.low hb _ _ _⟩
theorem NdV.cells {w : World} {B : Nat} {bl : List Nat} {d : Nd} {v : Value} (h : NdV w B bl d v) : ∃ ga cap, v = .agg #[.string (bstr d.name), .int .i64 (d.kind : Nat), .int .i64 (d.at_ : Nat), .int .i64 (d.size : Nat), .int .i64 d.val, .string (bstr d.text), .slice ga d.kids.len cap] := by
  obtain ⟨ga, cap, bs, b1, e, _⟩ := h
  exact ⟨ga, cap, e⟩
/-- one more: it lies in blocks that were made later -/
theorem KidsV.push {w w1 w2 : World} {B : Nat} {ks : Nds} {ga ga' : Option Addr} {cap cap' : Nat} {bl b1 : List Nat} {vs cs : List Value} {d : Nd} (h : KidsV w B ks ga cap bl vs) (hk : ∀ b, B ≤ b → b < w.heap.size → w1.heap[b]? = w.heap[b]?)
    (hd : NdV w1 w.heap.size b1 d (.agg cs.toArray)) (hn : b1.Nodup) (hB : B ≤ w.heap.size) (hs : w.heap.size ≤ w1.heap.size) (ho : Owns w2 B 28 7 ga' (ks.len + 1) cap' (vs ++ cs)) (hg : w1.grownBy w2 (blk ga)) (hl : ∀ x, ga' = some x → ga = some x ∨ w1.heap.size < x.block) :
    KidsV w2 B (ks.app (d.put .nil)) ga' cap' (bl ++ b1) (vs ++ cs) := by
  have hmem := h.mem
  have hmd := hd.mem
  have hkw : ∀ b, b < w1.heap.size → b ∉ blkL ga → w2.heap[b]? = w1.heap[b]? := fun b hb hne => hg.block b hb (fun e => by
    cases ha : ga with
    | none => rw [ha] at e; simp [blk] at e
    | some x => rw [ha] at e; simp only [blk, Option.map_some] at e; injection e with e; exact hne (by rw [ha, e]; simp [blkL]))
  have hnd := List.nodup_append.1 h.nodup
  refine ⟨by rw [Nds.len_app]; exact ho, ?_, ?_⟩
  · refine EncN.app (m := d.put .nil) ?_ ks bl vs ?_
    · obtain ⟨g2, c2, bs, b2, e, rfl, e1, e2⟩ := hd
      have hcs : cs = ndCells d.name d.kind d.at_ d.size d.val d.text (.slice g2 d.kids.len c2) := by
        have := congrArg Value.cells e
        simp only [Value.cells] at this
        have h4 := congrArg Array.toList this
        simpa using h4
      have hfar : ∀ b ∈ blkL g2 ++ b2, w2.heap[b]? = w1.heap[b]? := fun b hb => hkw b (hmd b hb).2 (fun hm => by
        have h1 := hmem b (List.mem_append_left _ hm); have h2 := hmd b hb; omega)
      refine ⟨g2, c2, bs, [], b2, [], by simp, (e1.keep fun x hx => hfar _ (by subst hx; simp [blkL])).mono hB, (e2.keep _ _ _ fun b hb => hfar b (by simp [hb])).low hB _ _ _, by rw [List.append_nil]; exact hcs, rfl, rfl⟩
    · exact (h.enc.keep _ _ _ fun b hb => hk b (h.enc.mem _ _ _ b hb).1 (h.enc.mem _ _ _ b hb).2).keep _ _ _ fun b hb => hkw b (by have := h.enc.mem _ _ _ b hb; omega) (fun hm => hnd.2.2 b hm b hb rfl)
  · rw [List.nodup_append]
    refine ⟨by cases ga' <;> simp [blkL], ?_, ?_⟩
    · rw [List.nodup_append]
      exact ⟨hnd.2.1, hn, fun a ha b hb e => by subst e; have h1 := hmem a (List.mem_append_right _ ha); have h2 := hmd a hb; omega⟩
    · intro a ha b hb e
      subst e
      obtain ⟨x, hx, rfl⟩ := mem_blkL ha
      rcases List.mem_append.1 hb with hb | hb
      · rcases hl x hx with h1 | h1
        · exact hnd.2.2 x.block (by rw [h1]; simp [blkL]) x.block hb rfl
        · have := hmem _ (List.mem_append_right _ hb); omega
      · rcases hl x hx with h1 | h1
        · have h2 := hmem x.block (by rw [h1]; simp [blkL]); have h3 := hmd _ hb; omega
        · have := hmd _ hb; omega
/-! ## the reader -/
structure LR (w : World) (b : Nat) (F : Value) (s : Wd) (st : St) : Prop where
  row : RowAt w b 0 62 [F, .string (bstr s), .int .i64 (st.at_ : Nat), .int .i64 (st.n : Nat)]
  len : st.at_ ≤ s.length
  few : st.n ≤ 400
theorem LR.keep {w w' : World} {b : Nat} {F : Value} {s : Wd} {st : St} (h : LR w b F s st) (hb : w'.heap[b]? = w.heap[b]?) : LR w' b F s st := ⟨h.row.of_heap hb, h.len, h.few⟩
/-! ## names of the call's own -/
def NmM (w : World) (b n : Nat) (N : Ex.Names) : Prop := ∃ D : DataW Unit, w.ownsMap Tryz.prog 9 (plainElem Tryz.prog 3) b n D ∧ IsMap D ∧ ∀ s, nm D s = N s
theorem NmM.made (w : World) : NmM (w.alloc (.map #[] 0)) w.heap.size 0 (fun _ => none) :=
  ⟨.map [], World.ownsMap_made _ _ _ _, isMap_empty, fun s => by unfold nm; split <;> rfl⟩
theorem NmM.keep {w w' : World} {b n : Nat} {N : Ex.Names} (h : NmM w b n N) (hh : w'.heap[b]? = w.heap[b]?) : NmM w' b n N := by
  obtain ⟨D, ⟨es, clock, hb, F, h1, h2⟩, h3⟩ := h
  exact ⟨D, ⟨es, clock, hh.trans hb, F, h1, h2⟩, h3⟩
theorem NmM.lt {w : World} {b n : Nat} {N : Ex.Names} (h : NmM w b n N) : b < w.heap.size := by obtain ⟨D, h1, _⟩ := h; exact h1.lt
theorem NmM.at_ {w : World} {b n : Nat} {N : Ex.Names} (h : NmM w b n N) : ∃ k, NamesAt w (.map (some b)) N k := by
  obtain ⟨D, h1, _, h3⟩ := h
  obtain ⟨k, _, hk⟩ := names_own h1
  rw [show nm D = N from funext h3] at hk
  exact ⟨k, hk⟩
theorem NmM.store {w : World} {b n : Nat} {N : Ex.Names} (h : NmM w b n N) (hn : n < maxLen) (s : Wd) (hs : s.length ≤ 1000) (v : Int) (hv : Ex.InR v) :
    ∃ w', (Instr.mapUpdate 103 (.map (some b)) (.string (bstr s)) (.int .i64 v)).run Tryz.prog w = .ok () w' ∧ NmM w' b (n + 1) (upd N s v) ∧ w.grownBy w' (some b) := by
  obtain ⟨D, h1, h2, h3⟩ := h
  have hwf : (Lit.int .i64 v).wf = true := by
    have h1 : IntKind.i64.min = -9223372036854775808 := rfl
    have h2 : IntKind.i64.max = 9223372036854775807 := rfl
    obtain ⟨h3, h4⟩ := hv
    simp [Lit.wf, h1, h2]
    omega
  obtain ⟨w', hrun, ho, hg⟩ := h1.update (string_keyed Tryz.underlying9) Tryz.underlying103 hn (bstr_keyOf Tryz.underlying9 s (by omega)) (plainElem_int Tryz.underlying3 hwf)
  refine ⟨w', hrun, ⟨_, ho, h2.put _ _, fun x => ?_⟩, hg⟩
  unfold upd
  by_cases hx : x = s
  · subst hx
    unfold nm
    rw [if_neg (by omega), atKey_put_same h2 (str_key x), if_pos rfl]
  · have hne : (Lit.string x) ≠ .string s := fun h => by injection h with h4; exact hx h4
    rw [if_neg hx, ← h3 x]
    unfold nm
    rw [atKey_put_other hne]
end Ly
end Go.Proofs.YtlomecfhobehnaaGreatDoor
end
section
/- layout's reader: what it throws; take, node. -/
namespace Go.Proofs.YtlomecfhobehnaaGreatDoor
open Go Go.RowKit
set_option linter.unusedVariables false
set_option linter.unusedSimpArgs false
open Rd
namespace Ly
open Tm
/-- what layout throws: an error -/
def thrownL (t : TypeId) (v : Value) : Ending := .panicked [{ v := .iface 110 (.agg #[.iface t v]), recovered := false }]
def LBad (e : Ending) : Prop := ∃ t v, e = thrownL t v
end Ly
open Ly
set_option maxRecDepth 100000 in
theorem lfail_any (b en : Nat) (F : Value) (s : Tm.Wd) (st : St) (w : World) (h : LR w b F s st) :
    Calls Tryz.prog 31 #[.pointer (some ⟨b, 0, none⟩), .int .i64 (en : Nat)] w fun e w' => LBad e ∧ Below w.heap.size w w' := by
  have c2 := h.row.cell0 2 (by simp)
  simp only [List.getElem_cons_zero, List.getElem_cons_succ] at c2
  have hb := (Below.refl w.heap.size w).alloc (Nat.le_refl _) (.cells #[.int .i64 (en : Nat), .int .i64 (st.at_ : Nat)] 122)
  clear h
  go_enter Tryz.func31, Tryz.ntmps31
  go_wp2_with fail
  exact ⟨rfl, ⟨_, _, rfl⟩, hb⟩
/-- how take ends -/
def TakOut (w : World) (b : Nat) (F : Value) (s : Tm.Wd) (o : Option (Tm.Wd × St)) (e : Ending) (w' : World) : Prop := w.grownBy w' (some b) ∧ match o with
  | some p => e = .returned (.string (bstr p.1)) ∧ LR w' b F s p.2
  | none => LBad e
set_option maxRecDepth 100000 in
set_option maxHeartbeats 1000000 in
theorem ltake_any (b : Nat) (F : Value) (s : Tm.Wd) (st : St) (k : Int) (w : World) (h : LR w b F s st) (hs : s.length ≤ 1000000) (hk1 : -9223372036854775808 ≤ k) (hk2 : k ≤ 9223372036854775807) :
    Calls Tryz.prog 61 #[.pointer (some ⟨b, 0, none⟩), .int .i64 k] w (TakOut w b F s (tak s k st)) := by
  have c1 := h.row.cell0 1 (by simp); have c2 := h.row.cell0 2 (by simp)
  simp only [List.getElem_cons_zero, List.getElem_cons_succ] at c1 c2
  have hf2 := h.row.frozen 2 (by simp)
  have hlen := h.len
  have HL := Lib.hid h
  have HF := Lib.hid (fun W (hW : LR W b F s st) => show Calls Tryz.prog 31 #[.pointer (some ⟨b, 0, none⟩), .int .i64 3] W fun e w' => LBad e ∧ Below W.heap.size W w' from lfail_any b 3 F s st W hW)
  clear h
  have w1 : wrap64 ((s.length : Int) - (st.at_ : Int)) = (s.length : Int) - (st.at_ : Int) := IntWalk.wrap64_in _ ⟨by omega, by omega⟩
  obtain ⟨a, ha⟩ : ∃ a, a = st.at_ := ⟨_, rfl⟩
  rw [← ha] at c2 hlen w1
  have HA := Lib.hid ha
  clear ha
  by_cases hn : k < 0
  · have d0 : decide (k < 0) = true := decide_eq_true hn
    have ht : tak s k st = none := by unfold tak; rw [if_pos (.inl hn)]
    rw [ht]
    clear hn ht
    go_enter Tryz.func61, Tryz.ntmps61
    go_wp2_with fail
    go_quiet (fail)
    go_wp2_with fail
    refine Calls.mono (HF.out (w.drewN nq) (HL.out.keep rfl)) ?_
    rintro e w2 ⟨⟨t, v, he⟩, hb⟩
    unfold thrownL at he
    subst he
    have HB := Lib.hid hb
    clear hb
    go_wp2_with fail
    exact ⟨rfl, Rd.below_grown ((bdrewN (Below.refl w.heap.size w) _).trans HB.out) _, t, v, rfl⟩
  · obtain ⟨kn, rfl⟩ : ∃ kn : Nat, k = (kn : Int) := ⟨k.toNat, by omega⟩
    have d0 : decide ((kn : Int) < 0) = false := decide_eq_false hn
    by_cases hm : (s.length : Int) - (a : Int) < (kn : Int)
    · have d1 : decide ((s.length : Int) - (a : Int) < (kn : Int)) = true := decide_eq_true hm
      have ht : tak s (kn : Int) st = none := by unfold tak; rw [← HA.out, if_pos (.inr hm)]
      rw [ht]
      clear hn hm ht
      go_enter Tryz.func61, Tryz.ntmps61
      go_wp2_with fail
      go_quiet (fail)
      go_wp2_with fail
      refine Calls.mono (HF.out (w.drewN nq) (HL.out.keep rfl)) ?_
      rintro e w2 ⟨⟨t, v, he⟩, hb⟩
      unfold thrownL at he
      subst he
      have HB := Lib.hid hb
      clear hb
      go_wp2_with fail
      exact ⟨rfl, Rd.below_grown ((bdrewN (Below.refl w.heap.size w) _).trans HB.out) _, t, v, rfl⟩
    · have d1 : decide ((s.length : Int) - (a : Int) < (kn : Int)) = false := decide_eq_false hm
      have ht : tak s (kn : Int) st = some ((s.drop a).take kn, ⟨a + kn, st.n⟩) := by
        unfold tak
        rw [← HA.out, if_neg (by omega)]
        simp
      rw [ht]
      have f5 : wrap64 ((a : Int) + (kn : Int)) = ((a + kn : Nat) : Int) := (IntWalk.wrap64_in _ ⟨by omega, by omega⟩).trans (by omega)
      have f6 : (0 : Int) ≤ (a : Int) := by omega
      have f7 : (a : Int) ≤ ((a + kn : Nat) : Int) := by omega
      have f8 : ((a + kn : Nat) : Int) ≤ (s.length : Int) := by omega
      have hx : (bstr s).extract a (a + kn) = bstr ((s.drop a).take kn) := by rw [bstr_cutL, Nat.add_sub_cancel_left]
      have HX := Lib.hid hx
      have H8 := Lib.hid (show a + kn ≤ s.length by omega)
      clear hn hm ht
      go_enter Tryz.func61, Tryz.ntmps61
      go_wp2_with fail
      go_quiet (fail)
      go_wp2_with fail
      go_quiet (fail)
      go_wp2_with fail
      go_ret
      refine ⟨⟨rfl, rfl, rfl, by simp [World.setCell], fun k _ h => Below.heap_setCell _ _ _ _ (fun e => h (congrArg some e))⟩, ?_, ?_⟩
      · show Ending.returned (.string ((bstr s).extract a (a + kn))) = _
        rw [HX.out]
      · exact ⟨RowAt.set0 (RowAt.of_heap HL.out.row rfl) 2 (by simp) _, H8.out, HL.out.few⟩
end Go.Proofs.YtlomecfhobehnaaGreatDoor
end
