/- Contract of package lz: Pack. -/
import Derived.Test.YtnldobfafaajjaaLzD
import Derived.Deep.DeepCutAuto
import Derived.Maps.OwnRows
namespace Go.Proofs.Ytnldobfafaajjaa
open Go.RowKit Go.Maps
set_option linter.unusedVariables false
set_option linter.unusedSimpArgs false
theorem infoI64 : (Try.prog.info? 3).map (fun i => (i.zero, i.size, i.bytes)) = some (some (.int .i64 0), 1, 8) := by kernel_rfl
/-- what the map's rows shun -/
def Off (ao ap : Option Addr) (j : Nat) : Prop := blk ao = some j ∨ blk ap = some j
/-- where Pack stands: blocks from B0 on are the call's own; rows from Bb on -/
structure PackAt (l : List UInt8) (w0 : World) (B0 Bb mb g5 g6 : Nat) (wr : World) (a : Nat) (toks : List Lz.Tok) (pl : List UInt8) (ao : Option Addr) (co : Nat) (ap : Option Addr) (cp n h : Nat) : Prop where
  reach : Lz.Reach l a toks pl
  bufs : Bufs wr Bb g5 g6 ao co ap cp (Lz.bytes toks) pl
  heads : Heads wr Bb mb n (Off ao ap) l h
  few : n ≤ h
  size : Bb ≤ wr.heap.size
  below : Below B0 w0 wr
structure Blocks (B0 Bb mb g5 g6 : Nat) : Prop where
  m : B0 ≤ mb
  m2 : mb < Bb
  a5 : B0 ≤ g5
  a6 : B0 ≤ g6
  n5 : g5 ≠ mb
  n6 : g6 ≠ mb
  bb : B0 ≤ Bb
theorem PackAt.start (l : List UInt8) (w : World) : PackAt l w w.heap.size (w.heap.size + 3) w.heap.size (w.heap.size + 1) (w.heap.size + 1 + 1) (((w.alloc (.map #[] 0)).alloc (.cells #[.slice none 0 0] 51)).alloc (.cells #[.slice none 0 0] 51)) 0 [] [] none 0 none 0 0 0 where
  reach := .start
  bufs :=
    { ne := by omega
      lt5 := by omega
      lt6 := by omega
      box5 := (RowAt.new' (w.alloc (.map #[] 0)) (w.heap.size + 1) (by simp) _ #[.slice none 0 0]).alloc _
      box6 := RowAt.new' _ (w.heap.size + 1 + 1) (by simp) _ #[.slice none 0 0]
      own5 := Owns.nil _ _ _ _
      own6 := Owns.nil _ _ _ _
      apart := fun x y h => by cases h }
  heads := by
    refine ⟨.map [], ?_, ?_, isMap_empty, fun key hk => rfl⟩
    · have h0 : (w.alloc (.map #[] 0)).ownsGroups (H := Unit) Try.prog 9 (w.heap.size + 3) 3 .i64 w.heap.size 0 (.map []) := by
        obtain ⟨es, clock, h1, h2, h3, h4, h5, h6, h7⟩ := World.ownsGroups_made (H := Unit) w Try.prog 9 3 .i64
        refine ⟨#[], 0, (MapKept.heap_alloc w _).1, ⟨by simp, MapKept.stamped_empty 0, by simp⟩, Nat.le_refl _, rfl, by omega, by simp, by simp⟩
      refine (h0.kept (World.grownBy_alloc _ _ none) (by simp) (fun es clock hb x hx => ?_)).kept (World.grownBy_alloc _ _ none) (by simp) (fun es clock hb x hx => ?_)
      · cases x.val.ownBlock <;> simp
      · cases x.val.ownBlock <;> simp
    · exact ((World.Shuns_made w _).kept (World.grownBy_alloc _ _ none) (by simp) (by simp)).kept (World.grownBy_alloc _ _ none) (by simp; omega) (by simp)
  few := Nat.le_refl _
  size := by simp
  below := (((Below.refl _ w).alloc (Nat.le_refl _) _).alloc (by simp) _).alloc (by simp; omega) _
theorem Owns.ge {w : World} {B : Nat} {e : TypeId} {size n cap j : Nat} {a : Option Addr} {xs : List Value} (h : Owns w B e size a n cap xs) (hj : blk a = some j) : B ≤ j ∧ j < w.heap.size := by
  obtain ⟨x, rfl, rfl⟩ := blk_some hj
  exact h.lt
theorem Owns.off {w : World} {B : Nat} {e : TypeId} {size n cap g : Nat} {a : Option Addr} {xs : List Value} (h : Owns w B e size a n cap xs) (hg : g < B) : ∀ x, a = some x → x.block ≠ g := fun x hx => by
  subst hx; have := h.lt; omega
theorem apart_new {w : World} {B n cap : Nat} {e : TypeId} {size : Nat} {a b b' : Option Addr} {xs : List Value} (ha : Owns w B e size a n cap xs) (hap : ∀ x y, a = some x → b = some y → x.block ≠ y.block) (hb : ∀ j, blk b' = some j → blk b = some j ∨ w.heap.size ≤ j) : ∀ x y, a = some x → b' = some y → x.block ≠ y.block := fun x y hx hy => by
  rcases hb y.block (by rw [hy]; rfl) with h | h
  · obtain ⟨z, hz, hzy⟩ := blk_some h
    rw [← hzy]; exact hap x z hx hz
  · subst hx; have := ha.lt; omega
/-- one more byte waits -/
theorem Bufs.wait {w2 w3 : World} {B g5 g6 : Nat} {ao : Option Addr} {co : Nat} {ap : Option Addr} {cp : Nat} {o p : List UInt8} (h : Bufs w2 B g5 g6 ao co ap cp o p) (hz : B ≤ w2.heap.size) (x : UInt8) (a1 : Option Addr) (c1 : Nat)
    (hg : (w2.drew.alloc (.cells #[.int .u8 (x.toNat : Int)] 5)).grownBy w3 (blk ap)) (hown : Owns w3 B 5 1 a1 (p.length + 1) c1 (bvals p ++ [.int .u8 (x.toNat : Int)])) (hloc : ∀ y, a1 = some y → ap = some y ∨ (w2.drew.alloc (.cells #[.int .u8 (x.toNat : Int)] 5)).heap.size ≤ y.block) :
    Bufs (w3.setCell ⟨g6, 0, none⟩ (.slice a1 (p.length + 1) c1)) B g5 g6 ao co a1 c1 o (p ++ [x]) ∧ Steps (Turns w2 g5 g6 ao ap) w2 (w3.setCell ⟨g6, 0, none⟩ (.slice a1 (p.length + 1) c1)) ∧ ∀ j, blk a1 = some j → blk ap = some j ∨ w2.heap.size ≤ j := by
  have hsz : (w2.drew.alloc (.cells #[.int .u8 (x.toNat : Int)] 5)).heap.size = w2.heap.size + 1 := by simp
  have b1 : ∀ j, blk a1 = some j → blk ap = some j ∨ w2.heap.size ≤ j := fun j hj => by
    obtain ⟨y, rfl, rfl⟩ := blk_some hj
    rcases hloc y rfl with h | h
    · left; rw [h]; rfl
    · right; omega
  have o6 := h.own6.drew.alloc (.cells #[.int .u8 (x.toNat : Int)] 5)
  have o5 := (h.own5.drew.alloc (.cells #[.int .u8 (x.toNat : Int)] 5)).beside hg (fun u v hu hv => (h.apart v u hv hu).symm)
  have hl : (p ++ [x]).length = p.length + 1 := by simp
  refine ⟨⟨h.ne, h.lt5, h.lt6, ?_, ?_, ?_, ?_, ?_⟩, ?_, b1⟩
  · exact (RowAt.blk (h.box5.drew.alloc _) o6 hg h.lt5).far (p := ⟨g6, 0, none⟩) h.ne _
  · rw [hl]; exact (RowAt.blk (h.box6.drew.alloc _) o6 hg h.lt6).set0 0 (by simp) (.slice a1 (p.length + 1) c1)
  · exact o5.far (p := ⟨g6, 0, none⟩) (o5.off h.lt6) _
  · rw [hl, show bvals (p ++ [x]) = bvals p ++ [.int .u8 (x.toNat : Int)] by simp [bvals, bval]]
    exact hown.far (p := ⟨g6, 0, none⟩) (hown.off h.lt6) _
  · exact apart_new h.own5 h.apart b1
  · have s1 : Steps (Turns w2 g5 g6 ao ap) w2 w3 := .step _ (.one none (fun j hj => by cases hj) (grown_alloc (grown_drew (grown_refl w2 none)) (.cells #[.int .u8 (x.toNat : Int)] 5))) (fun j hj => .inr (.inl hj)) hg
    exact .step (some g6) s1 (fun j hj => by cases hj; exact .inr (.inr (.inr (.inl rfl)))) (grown_set (grown_refl _ _) (p := ⟨g6, 0, none⟩) rfl _)
/-- more is told -/
theorem Bufs.told {w2 w3 : World} {B g5 g6 : Nat} {ao : Option Addr} {co : Nat} {ap : Option Addr} {cp : Nat} {o p : List UInt8} (h : Bufs w2 B g5 g6 ao co ap cp o p) (hz : B ≤ w2.heap.size) (bs : List UInt8) (a1 : Option Addr) (c1 k : Nat) (hk : k = bs.length)
    (hg : w2.grownBy w3 (blk ao)) (hown : Owns w3 B 5 1 a1 (o.length + k) c1 (bvals o ++ bvals bs)) (hloc : ∀ y, a1 = some y → ao = some y ∨ w2.heap.size < y.block) :
    Bufs (w3.setCell ⟨g5, 0, none⟩ (.slice a1 (o.length + k) c1)) B g5 g6 a1 c1 ap cp (o ++ bs) p ∧ Steps (Turns w2 g5 g6 ao ap) w2 (w3.setCell ⟨g5, 0, none⟩ (.slice a1 (o.length + k) c1)) ∧ ∀ j, blk a1 = some j → blk ao = some j ∨ w2.heap.size ≤ j := by
  subst hk
  have b1 : ∀ j, blk a1 = some j → blk ao = some j ∨ w2.heap.size ≤ j := fun j hj => by
    obtain ⟨y, rfl, rfl⟩ := blk_some hj
    rcases hloc y rfl with h | h
    · left; rw [h]; rfl
    · right; omega
  have o6 := h.own6.beside hg (fun u v hu hv => h.apart u v hu hv)
  have hl : (o ++ bs).length = o.length + bs.length := by simp
  refine ⟨⟨h.ne, h.lt5, h.lt6, ?_, ?_, ?_, ?_, ?_⟩, ?_, b1⟩
  · rw [hl]; exact (RowAt.blk h.box5 h.own5 hg h.lt5).set0 0 (by simp) (.slice a1 (o.length + bs.length) c1)
  · exact (RowAt.blk h.box6 h.own5 hg h.lt6).far (p := ⟨g5, 0, none⟩) (fun e => h.ne e.symm) _
  · rw [hl, show bvals (o ++ bs) = bvals o ++ bvals bs by simp [bvals]]
    exact hown.far (p := ⟨g5, 0, none⟩) (hown.off h.lt5) _
  · exact o6.far (p := ⟨g5, 0, none⟩) (o6.off h.lt5) _
  · intro x y hx hy
    exact (apart_new h.own6 (fun u v hu hv => (h.apart v u hv hu).symm) b1 y x hy hx).symm
  · have s1 : Steps (Turns w2 g5 g6 ao ap) w2 w3 := .one _ (fun j hj => .inl hj) hg
    exact .step (some g5) s1 (fun j hj => by cases hj; exact .inr (.inr (.inl rfl))) (grown_set (grown_refl _ _) (p := ⟨g5, 0, none⟩) rfl _)
theorem PackAt.drewN {l : List UInt8} {w0 : World} {B0 Bb mb g5 g6 : Nat} {wr : World} {a : Nat} {toks : List Lz.Tok} {pl : List UInt8} {ao : Option Addr} {co : Nat} {ap : Option Addr} {cp n hd : Nat} (h : PackAt l w0 B0 Bb mb g5 g6 wr a toks pl ao co ap cp n hd) (k : Nat) :
    PackAt l w0 B0 Bb mb g5 g6 (wr.drewN k) a toks pl ao co ap cp n hd :=
  ⟨h.reach, ⟨h.bufs.ne, h.bufs.lt5, h.bufs.lt6, h.bufs.box5.drewN k, h.bufs.box6.drewN k, h.bufs.own5.drewN k, h.bufs.own6.drewN k, h.bufs.apart⟩, h.heads, h.few, h.size, bdrewN h.below k⟩
theorem PackAt.move {l : List UInt8} {w0 : World} {B0 Bb mb g5 g6 : Nat} {wr w' : World} {a a' : Nat} {toks toks' : List Lz.Tok} {pl pl' : List UInt8} {ao ao' : Option Addr} {co co' : Nat} {ap ap' : Option Addr} {cp cp' n hd : Nat} (h : PackAt l w0 B0 Bb mb g5 g6 wr a toks pl ao co ap cp n hd) (hB : Blocks B0 Bb mb g5 g6)
    (hr : Lz.Reach l a' toks' pl') (hb : Bufs w' Bb g5 g6 ao' co' ap' cp' (Lz.bytes toks') pl') (hs : Steps (Turns wr g5 g6 ao ap) wr w') (h5 : ∀ j, blk ao' = some j → blk ao = some j ∨ wr.heap.size ≤ j) (h6 : ∀ j, blk ap' = some j → blk ap = some j ∨ wr.heap.size ≤ j) :
    PackAt l w0 B0 Bb mb g5 g6 w' a' toks' pl' ao' co' ap' cp' n hd := by
  have hz := h.size
  have hm := hB.m2
  have key : ∀ j, Turns wr g5 g6 ao ap (some j) → j ≠ mb ∧ B0 ≤ j ∧ (j < Bb ∨ Off ao ap j ∨ wr.heap.size ≤ j) := fun j hj => by
    have hbb := hB.bb
    rcases hj j rfl with h1 | h1 | h1 | h1 | h1
    · have := h.bufs.own5.ge h1; exact ⟨by omega, by omega, .inr (.inl (.inl h1))⟩
    · have := h.bufs.own6.ge h1; exact ⟨by omega, by omega, .inr (.inl (.inr h1))⟩
    · subst h1; exact ⟨hB.n5, hB.a5, .inl h.bufs.lt5⟩
    · subst h1; exact ⟨hB.n6, hB.a6, .inl h.bufs.lt6⟩
    · exact ⟨by omega, by omega, .inr (.inr h1)⟩
  refine ⟨hr, hb, ?_, h.few, Nat.le_trans hz hs.size, hs.under h.below (by have := hB.bb; omega) (fun j hj => (key j hj).2.1)⟩
  refine (hs.heads h.heads (fun j hj => ⟨(key j hj).1, (key j hj).2.2⟩)).shun fun j hj => ?_
  rcases hj with h1 | h1
  · rcases h5 j h1 with h2 | h2
    · exact .inl (.inl h2)
    · exact .inr h2
  · rcases h6 j h1 with h2 | h2
    · exact .inl (.inr h2)
    · exact .inr h2
theorem Turns.step {w2 w4 : World} {g5 g6 : Nat} {ao ao' ap ap' : Option Addr} {row : Option Nat} (h : Turns w4 g5 g6 ao' ap' row) (h5 : ∀ j, blk ao' = some j → blk ao = some j ∨ w2.heap.size ≤ j) (h6 : ∀ j, blk ap' = some j → blk ap = some j ∨ w2.heap.size ≤ j) (hz : w2.heap.size ≤ w4.heap.size) : Turns w2 g5 g6 ao ap row := fun j hj => by
  rcases h j hj with h1 | h1 | h1 | h1 | h1
  · rcases h5 j h1 with h2 | h2
    · exact .inl h2
    · exact .inr (.inr (.inr (.inr h2)))
  · rcases h6 j h1 with h2 | h2
    · exact .inr (.inl h2)
    · exact .inr (.inr (.inr (.inr h2)))
  · exact .inr (.inr (.inl h1))
  · exact .inr (.inr (.inr (.inl h1)))
  · exact .inr (.inr (.inr (.inr (by omega))))
/-- behind flush -/
theorem FlushOut.open {w4 w5 : World} {B g5 g6 : Nat} {ao ap : Option Addr} {cp : Nat} {toks : List Lz.Tok} {p : List UInt8} {e : Ending} (h : FlushOut w4 B g5 g6 ao ap cp (Lz.bytes toks) p e w5) :
    e = .returned (.tuple #[]) ∧ ∃ ao' co', Bufs w5 B g5 g6 ao' co' ap cp (Lz.bytes (Lz.flushed toks p)) [] ∧ Steps (Turns w4 g5 g6 ao ap) w4 w5 ∧ ∀ j, blk ao' = some j → blk ao = some j ∨ w4.heap.size ≤ j := by
  obtain ⟨h1, ao', co', h2, h3, h4⟩ := h
  exact ⟨h1, ao', co', by rw [Lz.flushed_bytes]; exact h2, h3, h4⟩
theorem Bufs.kept {w w' : World} {B g5 g6 : Nat} {ao : Option Addr} {co : Nat} {ap : Option Addr} {cp : Nat} {o p : List UInt8} {row : Option Nat} (h : Bufs w B g5 g6 ao co ap cp o p) (hg : w.grownBy w' row) (hr : ∀ j, row = some j → j ≠ g5 ∧ j ≠ g6 ∧ ¬ Off ao ap j) : Bufs w' B g5 g6 ao co ap cp o p where
  ne := h.ne
  lt5 := h.lt5
  lt6 := h.lt6
  box5 := h.box5.of_heap (hg.block g5 h.box5.lt (fun e => (hr g5 e.symm).1 rfl))
  box6 := h.box6.of_heap (hg.block g6 h.box6.lt (fun e => (hr g6 e.symm).2.1 rfl))
  own5 := h.own5.grown hg (fun x hx e => (hr x.block e.symm).2.2 (.inl (by rw [hx]; rfl)))
  own6 := h.own6.grown hg (fun x hx e => (hr x.block e.symm).2.2 (.inr (by rw [hx]; rfl)))
  apart := h.apart
theorem row_slice {w : World} {B : Nat} {v : Value} {zs : List Int} (hoi : w.ownsInts B 3 .i64 v zs) : Lz.items (rowDatum .i64 v zs) = zs := by
  refine Lz.items_row v zs (fun e => ?_) ?_
  · rcases hoi.1.2 with ⟨_, h0⟩ | ⟨g, cap, cur, h0, _⟩
    · exact List.eq_nil_of_length_eq_zero h0
    · rw [h0] at e; cases e
  · rcases hoi.1.2 with ⟨h0, _⟩ | ⟨g, cap, cur, h0, _⟩
    · exact ⟨none, 0, 0, h0, fun _ => h0⟩
    · exact ⟨_, _, _, h0, fun e => by cases e⟩
theorem Heads.more {w w2 : World} {B b n : Nat} {No : Nat → Prop} {l : List UInt8} {p : Nat} {D : DataW Unit} {v' v : Value} {zs : List Int} (h3 : IsMap D) (h4 : ∀ key : List UInt8, key.length = 3 → Lz.items (D.atKey (.string key) .nil) = (Lz.places l p key).map fun (j : Nat) => (j : Int)) (hp : p + 3 ≤ l.length)
    (hat : D.atKey (.string (Lz.key3 l p)) .nil = rowDatum .i64 v zs) (hoi : w.ownsInts B 3 .i64 v zs) {w1 : World} (hoi' : w1.ownsInts B 3 .i64 v' (zs ++ [(p : Int)])) (ho : w2.ownsGroups Try.prog 9 B 3 .i64 b n (D.put (.string (Lz.key3 l p)) (rowDatum .i64 v' (zs ++ [(p : Int)])))) (hs : w2.Shuns b No) :
    Heads w2 B b n No l (p + 1) := by
  refine ⟨_, ho, hs, h3.put _ _, fun key hk => ?_⟩
  by_cases hkk : key = Lz.key3 l p
  · subst hkk
    rw [atKey_put_same h3 (show WideAt.IsKeyLit (.string (Lz.key3 l p)) from trivial), row_slice hoi', Lz.places_here l p hp, List.map_append, ← h4 _ hk, hat, row_slice hoi]
    rfl
  · rw [atKey_put_other (by intro h; injection h with h; exact hkk h), h4 _ hk, Lz.places_other l p key (fun _ => hkk)]
theorem Heads.skip {w : World} {B b n : Nat} {No : Nat → Prop} {l : List UInt8} {p : Nat} (h : Heads w B b n No l p) (hp : l.length < p + 3) : Heads w B b n No l (p + 1) := by
  obtain ⟨D, h1, h2, h3, h4⟩ := h
  exact ⟨D, h1, h2, h3, fun key hk => by rw [h4 key hk, Lz.places_other l p key (fun h => by omega)]⟩
def PackOut (l : List UInt8) (B0 : Nat) (w : World) (e : Ending) (w' : World) : Prop :=
  ∃ toks pl, Lz.Reach l l.length toks pl ∧ e = .returned (.tuple #[.string (bstr (Lz.bytes (Lz.flushed toks pl))), .nilIface]) ∧ Below B0 w w'
set_option maxRecDepth 100000 in
set_option maxHeartbeats 4000000 in
theorem Pack_any (l : List UInt8) (w : World) (hl : l.length ≤ 4000) :
    Calls Try.prog 10 #[.string (bstr l)] w (PackOut l w.heap.size w) := by
  have hmm := @run_makeMap Try.prog
  obtain ⟨B0, hB0⟩ : ∃ B0, B0 = w.heap.size := ⟨_, rfl⟩
  rw [← hB0]
  have HB0 := Lib.hid hB0; clear hB0
  have hld : decide ((4000 : Int) < (l.length : Int)) = false := by rw [decide_eq_false_iff_not]; omega
  go_enter Try.func10, Try.ntmps10
  go_wp2_with fail
  have hst := PackAt.start l w
  have hbl : Blocks w.heap.size (w.heap.size + 3) w.heap.size (w.heap.size + 1) (w.heap.size + 1 + 1) := ⟨by omega, by omega, by omega, by omega, by omega, by omega, by omega⟩
  rw [← HB0.out] at hst hbl ⊢
  generalize ((w.alloc (.map #[] 0)).alloc (.cells #[.slice none 0 0] 51)).alloc (.cells #[.slice none 0 0] 51) = w1 at *
  obtain ⟨g5, hg5⟩ : ∃ g5, g5 = B0 + 1 := ⟨_, rfl⟩
  obtain ⟨g6, hg6⟩ : ∃ g6, g6 = B0 + 1 + 1 := ⟨_, rfl⟩
  obtain ⟨Bb, hBb⟩ : ∃ Bb, Bb = B0 + 3 := ⟨_, rfl⟩
  have hst2 : PackAt l w B0 Bb B0 g5 g6 w1 0 [] [] none 0 none 0 0 0 := by rw [hg5, hg6, hBb]; exact hst
  have hbl2 : Blocks B0 Bb B0 g5 g6 := by rw [hg5, hg6, hBb]; exact hbl
  rw [← hg6, ← hg5]
  have HST := Lib.hid hst2; clear hst2 hst
  have BL := Lib.hid hbl2; clear hbl2 hbl hg5 hg6 hBb
  go_loopw [8] (fun v8 wr => ∃ (a : Nat) (toks : List Lz.Tok) (pl : List UInt8) (ao : Option Addr) (co : Nat) (ap : Option Addr) (cp n : Nat), a ≤ l.length ∧ v8 = .int .i64 (a : Int) ∧ Hid (PackAt l w B0 Bb B0 g5 g6 wr a toks pl ao co ap cp n a)) (fun v8 _ => l.length - (intOf v8).toNat)
  case atStart => exact ⟨0, [], [], none, 0, none, 0, 0, Nat.zero_le _, rfl, HST⟩
  case round =>
    clear HST
    obtain ⟨a, toks, pl, ao, co, ap, cp, n, hal, rfl, HP⟩ := hrel
    by_cases hlt : a < l.length
    · have hai : (a : Int) < (l.length : Int) := by omega
      have hn9 : n < maxLen := by have := HP.out.few; unfold maxLen; omega
      have hlong := longest_any l a Bb B0 n _ wr HP.out.heads hn9 hal (by omega)
      have HLG := Lib.hid hlong; clear hlong hn9
      go_wp2_with fail
      refine HLG.out.mono ?_
      rintro e w2 ⟨back, nn, rfl, hbest, kq, rfl⟩
      have HBS := Lib.hid hbest; clear hbest HLG
      have hP2 := HP.out.drewN kq
      generalize wr.drewN kq = w2 at *
      have HP2 := Lib.hid hP2; clear hP2 HP
      go_upto_if 30 with fail
      go_cut [10] from 30 to 55 (fun v10 wr' => ∃ (m : Nat) (toks' : List Lz.Tok) (pl' : List UInt8) (ao' : Option Addr) (co' : Nat) (ap' : Option Addr) (cp' : Nat), 1 ≤ m ∧ a + m ≤ l.length ∧ v10 = .int .i64 (m : Int) ∧ Hid (PackAt l w B0 Bb B0 g5 g6 wr' (a + m) toks' pl' ao' co' ap' cp' n a))
      case first =>
        have hbz : Bb ≤ w2.heap.size := HP2.out.size
        have c5 := HP2.out.bufs.box5.cell0 0 (by simp)
        have f5 := HP2.out.bufs.box5.frozen0 0 (by simp)
        have c6 := HP2.out.bufs.box6.cell0 0 (by simp)
        have f6 := HP2.out.bufs.box6.frozen0 0 (by simp)
        simp only [List.getElem_cons_zero] at c5 c6
        have hat := HP2.out.reach.at
        have hps := hat.small
        have hpl := hat.pll
        have hcost := hat.cost
        have hfew := hat.few
        clear hat
        by_cases hnn : nn = 0
        · have hnb : ((nn : Int) == 0) = true := by rw [beq_iff_eq]; omega
          have hb0 : Lz.Best l a 0 0 := by
            rcases HBS.out.is with h | h
            · have := HBS.out; rw [h.1, h.2] at this; exact this
            · omega
          have HBE := Lib.hid hb0; clear hb0 hnn HBS
          have hx : ∀ h : a < (bstr l).size, ((bstr l)[a]'h).toNat = (l.getD a 0).toNat := fun h => by rw [bstr_at]
          obtain ⟨x, hxx⟩ : ∃ x, x = l.getD a 0 := ⟨_, rfl⟩
          rw [← hxx] at hx
          have HXX := Lib.hid hxx; clear hxx
          have o6 := (HP2.out.bufs.own6.alloc (.cells #[.int .u8 (x.toNat : Int)] 5)).drew
          have c6a : (w2.alloc (.cells #[.int .u8 (x.toNat : Int)] 5)).cell? ⟨g6, 0, none⟩ = some (.slice ap pl.length cp) := (HP2.out.bufs.box6.alloc _).cell0 0 (by simp)
          have hr1 : RowAt (w2.alloc (.cells #[.int .u8 (x.toNat : Int)] 5)).drew w2.heap.size 0 5 [.int .u8 (x.toNat : Int)] := RowAt.new w2 _ _
          have hml : pl.length + 1 ≤ maxLen := by unfold maxLen; omega
          have hmb : (pl.length + 1) * 1 ≤ 140737488355328 := by omega
          have hbz2 : Bb ≤ (w2.alloc (.cells #[.int .u8 (x.toNat : Int)] 5)).drew.heap.size := by simp; omega
          have K6 : Hid (∀ w3 : World, (w2.alloc (.cells #[.int .u8 (x.toNat : Int)] 5)).drew.grownBy w3 (blk ap) → RowAt w3 g6 0 51 [.slice ap pl.length cp]) := Lib.hid (fun w3 hg => RowAt.blk (HP2.out.bufs.box6.alloc _).drew o6 hg HP2.out.bufs.lt6)
          go_wp2_with fail
          go_region_law ((refine step_pushN _ (by rfl) _ _ 51 (by rfl) Bb 5 (.int .u8 0) 1 1 Try.underlying51 infoU8 rfl (by decide) ap pl.length cp _ (by rfl) o6 w2.heap.size 1 1 (by decide) [.int .u8 (x.toNat : Int)] (by rfl) (by simp [Value.oneCell']) (by rfl) hr1 hml hmb hbz2 ?_; intro a1 c1 w3 hown1 hgrow1 hloc1 hex1; have r6 := K6.out w3 hgrow1; have k6 := r6.cell0 0 (by simp); have q6 := r6.frozen0 0 (by simp)))
          all_goals
            obtain ⟨hb4, hs4, h64⟩ := HP2.out.bufs.wait hbz x a1 c1 hgrow1 hown1 hloc1
            generalize w3.setCell ⟨g6, 0, none⟩ (.slice a1 (pl.length + 1) c1) = w4 at *
            have hl1 : (pl ++ [x]).length = pl.length + 1 := by simp
            have c64 := hb4.box6.cell0 0 (by simp)
            simp only [List.getElem_cons_zero, hl1] at c64
            have hz4 := hs4.size
            have HB4 := Lib.hid hb4
            have HS4 := Lib.hid hs4
            have H64 := Lib.hid h64
            clear hb4 hs4 h64 r6 k6 q6 hown1 hgrow1 hloc1 hex1 hl1
            by_cases h128 : pl.length + 1 = 128
            · have h128b : ((pl.length : Int) + 1 == 128) = true := by rw [beq_iff_eq]; omega
              have hfl := flush_any w4 Bb g5 g6 ao co a1 c1 (Lz.bytes toks) (pl ++ [x]) HB4.out (by simp; omega) (by omega) (by omega)
              have HFL := Lib.hid hfl; clear hfl
              go_wp2_with fail
              refine HFL.out.mono ?_
              intro e w5 h5
              obtain ⟨rfl, ao5, co5, hb5, hs5, h55⟩ := h5.open
              have hres : PackAt l w B0 Bb B0 g5 g6 w5 (a + 1) (Lz.flushed toks (pl ++ [x])) [] ao5 co5 a1 c1 n a :=
                HP2.out.move BL.out (by rw [HXX.out]; exact .full HP2.out.reach hlt HBE.out h128) hb5 (HS4.out.trans (hs5.mono fun row hr => hr.step (fun j hj => .inl hj) H64.out hz4)) (fun j hj => by rcases h55 j hj with h | h; exact .inl h; exact .inr (by omega)) H64.out
              have HRES := Lib.hid hres; clear hres h5 hb5 hs5 h55 HFL
              go_wp2_with fail
              go_meet
              exact ⟨1, _, _, ao5, co5, a1, c1, by omega, by omega, rfl, HRES⟩
            · have h128b : ((pl.length : Int) + 1 == 128) = false := by rw [beq_eq_false_iff_ne]; omega
              have hres : PackAt l w B0 Bb B0 g5 g6 w4 (a + 1) toks (pl ++ [x]) ao co a1 c1 n a :=
                HP2.out.move BL.out (by rw [HXX.out]; exact .wait HP2.out.reach hlt HBE.out h128) HB4.out HS4.out (fun j hj => .inl hj) H64.out
              have HRES := Lib.hid hres; clear hres
              go_wp2_with fail
              go_meet
              exact ⟨1, _, _, ao, co, a1, c1, by omega, by omega, rfl, HRES⟩
        · have hnb : ((nn : Int) == 0) = false := by rw [beq_eq_false_iff_ne]; omega
          have hbs := HBS.out.is
          have hq : 3 ≤ nn ∧ nn ≤ 130 ∧ 1 ≤ back ∧ back ≤ 1023 ∧ back ≤ a ∧ Lz.Same l (a - back) a nn := by
            rcases hbs with h | h
            · omega
            · exact h
          obtain ⟨q1, q2, q3, q4, q5, q6⟩ := hq
          have q7 := q6.1
          clear hbs q6
          have hfl := flush_any w2 Bb g5 g6 ao co ap cp (Lz.bytes toks) pl HP2.out.bufs (by omega) (by omega) hbz
          have HFL := Lib.hid hfl; clear hfl
          go_wp2_with fail
          refine HFL.out.mono ?_
          intro e w5 h5
          obtain ⟨rfl, ao5, co5, hb5, hs5, h55⟩ := h5.open
          have hz5 := hs5.size
          have c55 := hb5.box5.cell0 0 (by simp)
          simp only [List.getElem_cons_zero] at c55
          have hbz5 : Bb ≤ w5.heap.size := by omega
          have hLb : (Lz.bytes (Lz.flushed toks pl)).length ≤ 100000 := by
            rw [Lz.flushed_bytes]
            split
            · omega
            · simp; omega
          have hnews : ([.int .u8 (128 + (nn : Int) - 3), .int .u8 ((back : Int) / 256), .int .u8 ((back : Int) % 256)] : List Value) = bvals (Lz.Tok.back back nn).bytes := by
            have e1 : (UInt8.ofNat (128 + nn - 3)).toNat = 128 + nn - 3 := by rw [UInt8.toNat_ofNat']; omega
            have e2 : (UInt8.ofNat (back / 256)).toNat = back / 256 := by rw [UInt8.toNat_ofNat']; omega
            have e3 : (UInt8.ofNat (back % 256)).toNat = back % 256 := by rw [UInt8.toNat_ofNat']; omega
            show _ = [bval (UInt8.ofNat (128 + nn - 3)), bval (UInt8.ofNat (back / 256)), bval (UInt8.ofNat (back % 256))]
            unfold bval
            rw [e1, e2, e3]
            rw [show ((128 + nn - 3 : Nat) : Int) = 128 + (nn : Int) - 3 by omega]
            rfl
          have HNW := Lib.hid hnews; clear hnews
          have HB5 := Lib.hid hb5; clear hb5
          have HS5 := Lib.hid hs5; clear hs5
          have H55 := Lib.hid h55; clear h55 h5 HFL
          have hml : (Lz.bytes (Lz.flushed toks pl)).length + 3 ≤ maxLen := by unfold maxLen; omega
          have hmb : ((Lz.bytes (Lz.flushed toks pl)).length + 3) * 1 ≤ 140737488355328 := by omega
          go_wp2_with (with_reducible refine wpList_pushN _ rfl _ _ 51 rfl Bb 5 (.int .u8 0) 1 1 Try.underlying51 infoU8 rfl (by decide) ao5 (Lz.bytes (Lz.flushed toks pl)).length co5 _ rfl HB5.out.own5 3 (by decide) [.int .u8 (128 + (nn : Int) - 3), .int .u8 ((back : Int) / 256), .int .u8 ((back : Int) % 256)] rfl (by simp [Value.oneCell']) rfl hml hmb hbz5 ?_; intro a1 c1 w6 hown1 hgrow1 hloc1 hsz1 hex1; have r5 := RowAt.blk HB5.out.box5 HB5.out.own5 hgrow1 HB5.out.lt5; have k5 := r5.cell0 0 (by simp); have q5 := r5.frozen0 0 (by simp); have HG6 := Lib.hid hgrow1; have HO6 := Lib.hid hown1; have HL6 := Lib.hid hloc1; clear hown1 hgrow1 hloc1 hex1 r5)
          have hown1 := HO6.out
          rw [HNW.out] at hown1
          obtain ⟨hb7, hs7, h57⟩ := HB5.out.told hbz5 (Lz.Tok.back back nn).bytes a1 c1 3 rfl HG6.out hown1 HL6.out
          rw [← Lz.bytes_snoc] at hb7
          have hres : PackAt l w B0 Bb B0 g5 g6 _ (a + nn) (Lz.flushed toks pl ++ [.back back nn]) [] a1 c1 ap cp n a :=
            HP2.out.move BL.out (.back HP2.out.reach back nn q1 HBS.out) hb7 (HS5.out.trans (hs7.mono fun row hr => hr.step H55.out (fun j hj => .inl hj) hz5)) (fun j hj => by
              rcases h57 j hj with h | h
              · exact H55.out j h
              · exact .inr (by omega)) (fun j hj => .inl hj)
          have HRES := Lib.hid hres; clear hres hb7 hs7 h57 hown1
          go_meet
          exact ⟨nn, _, _, a1, c1, ap, cp, by omega, q7, rfl, HRES⟩
      case rest =>
        obtain ⟨m, toks2, pl2, ao2, co2, ap2, cp2, hm1, ham, rfl, HQ⟩ := hcut
        clear HP2 HBS
        obtain ⟨i0, hi, hz0, hz1, hz2⟩ := info_parts infoI64
        go_wp2_with fail
        go_loopw [8, 57] (fun v8 v57 wi => ∃ (j x n2 : Nat), j ≤ m ∧ x ≤ a + j ∧ a + j ≤ x ∧ v8 = .int .i64 (x : Int) ∧ v57 = .int .i64 (j : Int) ∧ Hid (PackAt l w B0 Bb B0 g5 g6 wi (a + m) toks2 pl2 ao2 co2 ap2 cp2 n2 x)) (fun _ v57 _ => m - (intOf v57).toNat)
        case atStart => exact ⟨0, a, n, Nat.zero_le _, by omega, by omega, rfl, rfl, HQ⟩
        case round =>
          obtain ⟨j, x, n2, hjm, hx1, hx2, rfl, rfl, HP3⟩ := hrel
          clear HQ
          have hn2 := HP3.out.few
          by_cases hj : j < m
          · have hji : (j : Int) < (m : Int) := by omega
            by_cases h3 : x + 3 ≤ l.length
            · have h3i : (x : Int) + 3 ≤ (l.length : Int) := by omega
              obtain ⟨D, hD1, hD2, hD3, hD4⟩ := HP3.out.heads
              have hkey : keyOf Try.prog 9 (.string ((bstr l).extract x (x + 3))) = some (.string (Lz.key3 l x)) := by
                rw [show (bstr l).extract x (x + 3) = bstr (Lz.key3 l x) by rw [bstr_extract, Nat.add_sub_cancel_left]; rfl]
                exact WideMaps.keyOf_string_mk Try.underlying9 (show (bstr (Lz.key3 l x)).size ≤ maxLen by rw [bstr_size, Lz.key3_len l x h3]; decide)
              have H4 := Lib.hid hD4; clear hD4
              have hnm : n2 < maxLen := by unfold maxLen; omega
              have hbz : Bb ≤ wr.heap.size := HP3.out.size
              have hoff : ∀ g, Off ao2 ap2 g → Bb ≤ g ∧ g < wr.heap.size := fun g hg => by
                rcases hg with h | h
                · exact HP3.out.bufs.own5.ge h
                · exact HP3.out.bufs.own6.ge h
              have hno : ∀ v v' : Value, (∀ No : Nat → Prop, wr.Shuns B0 No → ∀ g, v.ownBlock = some g → ¬ No g) → (v'.ownBlock = v.ownBlock ∨ v'.ownBlock = some (wr.alloc (.cells #[.int .i64 (x : Int)] 3)).heap.size) → ∀ g, v'.ownBlock = some g → ¬ Off ao2 ap2 g := fun v v' h1 h2 g hg hno => by
                rcases h2 with h | h
                · exact h1 _ hD2 g (h ▸ hg) hno
                · rw [h] at hg
                  have := (hoff g hno).2
                  simp at hg
                  omega
              have HNO := Lib.hid hno; clear hno
              have HOFF := Lib.hid hoff; clear hoff
              go_wp2_with (first
                | (at_lookup; refine wpList_lookup_groups_shuns _ rfl _ _ 50 rfl 9 43 3 .i64 strKeyed Try.underlying50 (zeroRow _) Bb B0 n2 D rfl hD1 hnm _ _ rfl hkey ?_; intro v zs hat hoi hzl hback hsh)
                | (at_builtin; refine wpList_append_own_at _ rfl _ _ 43 rfl Bb 3 i0 (.int .i64 0) 1 8 Try.underlying43 hi hz0 hz1 hz2 rfl (by decide) _ _ _ rfl (hoi.1.alloc _) ⟨wr.heap.size, 0, none⟩ 1 1 [.int .i64 (x : Int)] rfl rfl (cell_one_new _ _ _) (ints_oneCell .i64 [(x : Int)]) (by unfold maxLen; omega) (by omega) (by simp; omega) ?_; intro v' w1 hown' hgrow hnil hloc)
                | (at_mapUpdate; refine wpList_mapUpdate_back_shuns (No := Off ao2 ap2) _ rfl _ _ _ 50 rfl strKeyed Try.underlying50 hkey hD1 hnm hoi hD2 (fun g hg => HNO.out v v' hsh hloc g hg) hback rfl rfl rfl ((World.grownBy_alloc _ _ _).trans hgrow) (hoi.appended hown' (WalkArith.wf_i64 (by omega))) (by simp; omega) (hloc.imp id (fun h => ⟨_, h, by simp⟩)) ?_; intro w2 hown2 hgrow2 hsh2))
              have hg1 : (wr.alloc (.cells #[.int .i64 (x : Int)] 3)).grownBy w1 v.ownBlock := hgrow
              have hall : wr.grownBy w1 v.ownBlock := (World.grownBy_alloc wr _ _).trans hg1
              have ho' : w1.ownsInts Bb 3 .i64 v' (zs ++ [(x : Int)]) := hoi.appended hown' (WalkArith.wf_i64 (by omega))
              have hB := BL.out
              have hbm := hB.m2
              have hres : PackAt l w B0 Bb B0 g5 g6 w2 (a + m) toks2 pl2 ao2 co2 ap2 cp2 (n2 + 1) (x + 1) :=
                { reach := HP3.out.reach
                  bufs := (HP3.out.bufs.kept hall (fun j hj => by
                    have h1 := (hoi.1.lt j hj).1
                    have h5 := HP3.out.bufs.lt5
                    have h6 := HP3.out.bufs.lt6
                    exact ⟨by omega, by omega, hsh _ hD2 j hj⟩)).kept hgrow2 (fun j hj => by
                    cases hj
                    exact ⟨fun e => hB.n5 e.symm, fun e => hB.n6 e.symm, fun ho => by have := (HOFF.out _ ho).1; omega⟩)
                  heads := Heads.more hD3 H4.out h3 hat hoi ho' hown2 hsh2
                  few := by omega
                  size := Nat.le_trans hbz (Nat.le_trans hall.size hgrow2.size)
                  below := HP3.out.below.groups hoi hall hgrow2 (by omega) (by omega) (Nat.le_refl _) }
              have HRES := Lib.hid hres; clear hres ho' hg1 hall hown' hgrow hnil hloc hgrow2 hown2 hsh2 hback
              go_roundw
              case rel => exact ⟨j + 1, x + 1, n2 + 1, by omega, by omega, by omega, by go_num, by go_num, HRES⟩
              case measure => simp [intOf]; omega
            · have h3d : decide ((x : Int) + 3 ≤ (l.length : Int)) = false := by rw [decide_eq_false_iff_not]; omega
              have hres : PackAt l w B0 Bb B0 g5 g6 wr (a + m) toks2 pl2 ao2 co2 ap2 cp2 n2 (x + 1) :=
                ⟨HP3.out.reach, HP3.out.bufs, HP3.out.heads.skip (by omega), by omega, HP3.out.size, HP3.out.below⟩
              have HRES := Lib.hid hres; clear hres
              go_wp2_with fail
              go_roundw
              case rel => exact ⟨j + 1, x + 1, n2, by omega, by omega, by omega, by go_num, by go_num, HRES⟩
              case measure => simp [intOf]; omega
          · obtain rfl : j = m := by omega
            have hd : decide ((j : Int) < (j : Int)) = false := by simp
            obtain rfl : x = a + j := by omega
            go_wp2_with fail
            go_roundw
            case rel => exact ⟨a + j, toks2, pl2, ao2, co2, ap2, cp2, n2, ham, rfl, HP3⟩
            case measure => simp [intOf]; omega
    · obtain rfl : a = l.length := by omega
      have hd : decide ((l.length : Int) < (l.length : Int)) = false := by simp
      have hat := HP.out.reach.at
      have hps := hat.small
      have hpl := hat.pll
      have hcost := hat.cost
      have hfew := hat.few
      clear hat
      have hfl := flush_any wr Bb g5 g6 ao co ap cp (Lz.bytes toks) pl HP.out.bufs (by omega) (by omega) HP.out.size
      have HFL := Lib.hid hfl; clear hfl hps hpl hcost hfew
      go_wp2_with fail
      refine HFL.out.mono ?_
      intro e w5 h5
      obtain ⟨rfl, ao5, co5, hb5, hs5, h55⟩ := h5.open
      have c55 := hb5.box5.cell0 0 (by simp)
      simp only [List.getElem_cons_zero] at c55
      have hB := BL.out
      have hbb := HP.out.bufs
      have hz := HP.out.size
      have hbel : Below B0 w w5 := hs5.under HP.out.below (by have := hB.bb; omega) (fun j hj => by
        have h1 := hB.bb
        rcases hj j rfl with h2 | h2 | h2 | h2 | h2
        · have := hbb.own5.ge h2; omega
        · have := hbb.own6.ge h2; omega
        · have := hB.a5; omega
        · have := hB.a6; omega
        · omega)
      have HBEL := Lib.hid hbel; clear hbel hbb hB hs5 h55 h5 HFL hz
      have HREACH := Lib.hid HP.out.reach
      have ho5 := hb5.own5
      clear hb5
      generalize hby : Lz.bytes (Lz.flushed toks pl) = by_ at *
      have HBY := Lib.hid hby; clear hby
      cases ao5 with
      | none =>
        have h3 := ho5.of_none
        have hu0 : by_ = [] := List.eq_nil_of_length_eq_zero h3.1
        subst hu0
        obtain rfl : co5 = 0 := h3.2.1
        have hcv : ∀ w, (convert 51 9 (.slice none 0 0)).run Try.prog w = .ok (.string (bstr [])) w := fun w => by kernel_rfl
        clear h3 ho5
        go_wp2_with fail
        go_ret2
        exact ⟨toks, pl, HREACH.out, by rw [HBY.out]; rfl, HBEL.out⟩
      | some y =>
        have hrow := ho5.row
        obtain ⟨g, rfl⟩ : ∃ g, y = ⟨g, 0, none⟩ := ⟨y.block, hrow.1⟩
        have hcv := run_string_of (P := Try.prog) 51 5 9 Try.underlying51 Try.underlying5 Try.underlying9 hrow.2.2.2.2 by_.length co5 rfl
        clear hrow ho5
        go_wp2_with fail
        go_ret2
        exact ⟨toks, pl, HREACH.out, by rw [HBY.out]; rfl, HBEL.out⟩
end Go.Proofs.Ytnldobfafaajjaa
