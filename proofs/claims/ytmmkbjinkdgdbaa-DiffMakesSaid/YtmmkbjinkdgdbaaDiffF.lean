/- Contract of package diff: Both. -/
import Derived.Test.YtmmkbjinkdgdbaaPlainBoth
import Derived.Test.YtmmkbjinkdgdbaaBuilder
import Derived.Test.YtmmkbjinkdgdbaaShelf
import Derived.Deep.RegionWith
import Derived.Laws.StructEq
namespace Go.Proofs.Ytmmkbjinkdgdbaa
open Go.RowKit
set_option linter.unusedVariables false
set_option linter.unusedSimpArgs false
/-- what is left of changes, as a slice -/
def ReadsC (w : World) (B1 : Nat) (a : Option Addr) (n cap : Nat) (l : List Diff.Ch) : Prop :=
  l.length = n ∧ n ≤ cap ∧ (l ≠ [] → ∃ g off, a = some ⟨g, off, none⟩ ∧ g < B1 ∧ RowAt w g off 138 (Diff.chCells l))
theorem ReadsC.below {w w' : World} {B1 : Nat} {a : Option Addr} {n cap : Nat} {l : List Diff.Ch} (h : ReadsC w B1 a n cap l) (hb : Below B1 w w') : ReadsC w' B1 a n cap l := by
  refine ⟨h.1, h.2.1, fun hl => ?_⟩
  obtain ⟨g, off, h1, h2, h3⟩ := h.2.2 hl
  exact ⟨g, off, h1, h2, h3.below hb h2⟩
theorem ReadsC.owns {w : World} {B B1 : Nat} {a : Option Addr} {n cap : Nat} {l : List Diff.Ch} (h : Owns w B 138 3 a n cap (Diff.chCells l)) (hl : l.length = n) (hB : w.heap.size ≤ B1) : ReadsC w B1 a n cap l := by
  cases a with
  | none =>
    obtain ⟨h1, h2, h3⟩ := h.of_none
    refine ⟨hl, by omega, fun hne => absurd (List.eq_nil_of_length_eq_zero (by omega)) hne⟩
  | some x =>
    obtain ⟨h1, h2, h3, h4, h5⟩ := h.row
    refine ⟨hl, h3, fun _ => ⟨x.block, 0, by rw [← h1], ?_, h5⟩⟩
    have := h.lt.2; omega
/-- the first one's cells, and the others -/
theorem ReadsC.head {w : World} {B1 : Nat} {a : Option Addr} {n cap : Nat} {c : Diff.Ch} {t : List Diff.Ch} (h : ReadsC w B1 a n cap (c :: t)) :
    ∃ g off, a = some ⟨g, off, none⟩ ∧ n = t.length + 1 ∧ n ≤ cap ∧ (∀ w', Below B1 w w' → w'.cell? ⟨g, off, none⟩ = some (.int .i64 (c.from_ : Nat)) ∧ w'.cell? ⟨g, off + 1, none⟩ = some (.int .i64 (c.to_ : Nat)) ∧ w'.cell? ⟨g, off + 2, none⟩ = some (.string (bstr c.text))) ∧
      ((cap = 1 → ReadsC w B1 (some ⟨g, off, none⟩) (n - 1) 0 t) ∧ ReadsC w B1 (some ⟨g, off + 3, none⟩) (n - 1) (cap - 1) t) := by
  obtain ⟨g, off, h1, h2, h3⟩ := h.2.2 (by simp)
  have hn := h.1
  rw [List.length_cons] at hn
  have e : Diff.chCells (c :: t) = [.int .i64 (c.from_ : Nat), .int .i64 (c.to_ : Nat), .string (bstr c.text)] ++ Diff.chCells t := rfl
  rw [e] at h3
  have c0 := h3.cell 0 (by simp)
  have c1 := h3.cell 1 (by simp)
  have c2 := h3.cell 2 (by simp)
  have hcap := h.2.1
  refine ⟨g, off, h1, hn.symm, hcap, fun w' hb => ⟨(hb.cell (p := ⟨g, off, none⟩) h2).trans c0, (hb.cell (p := ⟨g, off + 1, none⟩) h2).trans c1, (hb.cell (p := ⟨g, off + 2, none⟩) h2).trans c2⟩, fun hc => ⟨by omega, by omega, fun hne => ?_⟩, by omega, by omega, fun _ => ⟨g, off + 3, rfl, h2, ?_⟩⟩
  · exact absurd (List.eq_nil_of_length_eq_zero (by omega)) hne
  · have hp := h3.part 3 (Diff.chCells t).length
    have hd : ([Value.int .i64 (c.from_ : Nat), .int .i64 (c.to_ : Nat), .string (bstr c.text)] ++ Diff.chCells t).drop 3 = Diff.chCells t := rfl
    rw [hd, List.take_length] at hp
    exact hp
theorem Bd.string (B b : Nat) (l : List UInt8) (w : World) (h : IsB B b l w) (hBw : B ≤ w.heap.size) :
    Calls Try.prog 84 #[.pointer (some ⟨b, 0, none⟩)] w fun e w' => e = .returned (.string (bstr l)) ∧ Below B w w' := Try.Builder_String_any B b l w h hBw
/-- in a round: the box of a change, the builder -/
structure BW (B4 bx : Nat) (z : Diff.Ch) (s : List UInt8) (w4 w : World) : Prop where
  box : RowAt w bx 0 138 (Diff.chCell z)
  isb : IsB B4 B4 s w
  bel : Below B4 w4 w
  hi : B4 < bx
  size : B4 ≤ w.heap.size
theorem BW.start {B4 : Nat} {s : List UInt8} {w4 wr : World} (hsz : B4 ≤ wr.heap.size) (hb : Below B4 w4 wr) (hs : IsB B4 B4 s wr) : BW B4 wr.heap.size ⟨0, 0, []⟩ s w4 (wr.alloc (.cells #[.int .i64 0, .int .i64 0, .string ⟨#[]⟩] 138)) :=
  ⟨RowAt.new wr 138 #[.int .i64 0, .int .i64 0, .string ⟨#[]⟩], hs.below ((Below.refl _ _).alloc (Nat.le_refl _) _), hb.alloc hsz _, hs.lt, by simp; omega⟩
theorem BW.drewN {B4 bx : Nat} {z : Diff.Ch} {s : List UInt8} {w4 w : World} (h : BW B4 bx z s w4 w) (n : Nat) : BW B4 bx z s w4 (w.drewN n) :=
  ⟨h.box.drewN n, h.isb.below (bdrewN (Below.refl _ _) n), bdrewN h.bel n, h.hi, h.size⟩
theorem BW.drew {B4 bx : Nat} {z : Diff.Ch} {s : List UInt8} {w4 w : World} (h : BW B4 bx z s w4 w) : BW B4 bx z s w4 w.drew :=
  ⟨h.box.drew, h.isb.below (Below.refl _ _).drew, h.bel.drew, h.hi, h.size⟩
theorem BW.cells {B4 bx : Nat} {z : Diff.Ch} {s : List UInt8} {w4 w : World} (h : BW B4 bx z s w4 w) : w.cell? ⟨bx, 0, none⟩ = some (.int .i64 (z.from_ : Nat)) ∧ w.cell? ⟨bx, 1, none⟩ = some (.int .i64 (z.to_ : Nat)) ∧ w.cell? ⟨bx, 2, none⟩ = some (.string (bstr z.text)) :=
  ⟨h.box.cell0 0 (by simp [Diff.chCell]), h.box.cell0 1 (by simp [Diff.chCell]), h.box.cell0 2 (by simp [Diff.chCell])⟩
theorem BW.all {B4 bx : Nat} {z : Diff.Ch} {s : List UInt8} {w4 w : World} (h : BW B4 bx z s w4 w) : (w.cell? ⟨bx, 0, none⟩ = some (.int .i64 (z.from_ : Nat)) ∧ w.cell? ⟨bx, 1, none⟩ = some (.int .i64 (z.to_ : Nat)) ∧ w.cell? ⟨bx, 2, none⟩ = some (.string (bstr z.text))) ∧ w.frozen? ⟨bx, 0, none⟩ = false ∧ w.frozen? ⟨bx, 1, none⟩ = false ∧ w.frozen? ⟨bx, 2, none⟩ = false :=
  ⟨h.cells, h.box.frozen0 0 (by simp [Diff.chCell]), h.box.frozen0 1 (by simp [Diff.chCell]), h.box.frozen0 2 (by simp [Diff.chCell])⟩
theorem BW.ne {B4 bx : Nat} {z : Diff.Ch} {s : List UInt8} {w4 w : World} (h : BW B4 bx z s w4 w) : bx ≠ B4 := by have := h.hi; omega
theorem BW.fill {B4 bx : Nat} {z : Diff.Ch} {s : List UInt8} {w4 w : World} (h : BW B4 bx z s w4 w) (c : Diff.Ch) : BW B4 bx c s w4 (((w.setCell ⟨bx, 0, none⟩ (.int .i64 (c.from_ : Nat))).setCell ⟨bx, 1, none⟩ (.int .i64 (c.to_ : Nat))).setCell ⟨bx, 2, none⟩ (.string (bstr c.text))) := by
  have r1 := h.box.set0 0 (by simp [Diff.chCell]) (.int .i64 (c.from_ : Nat))
  have r2 := r1.set0 1 (by simp [Diff.chCell]) (.int .i64 (c.to_ : Nat))
  have r3 := r2.set0 2 (by simp [Diff.chCell]) (.string (bstr c.text))
  have i1 := h.isb.far h.box (by decide) h.ne 0 (.int .i64 (c.from_ : Nat))
  have i2 := i1.far r1 (by decide) h.ne 1 (.int .i64 (c.to_ : Nat))
  have i3 := i2.far r2 (by decide) h.ne 2 (.string (bstr c.text))
  have hi := h.hi
  refine ⟨r3, i3, ((h.bel.setCell (p := ⟨bx, 0, none⟩) (by show B4 ≤ bx; omega) _).setCell (p := ⟨bx, 1, none⟩) (by show B4 ≤ bx; omega) _).setCell (p := ⟨bx, 2, none⟩) (by show B4 ≤ bx; omega) _, hi, ?_⟩
  have := h.size
  simp
  exact this
theorem run_chEq (c d : Diff.Ch) (h : c ≠ d) (w : World) : (binOp .eql 138 (.agg #[.int .i64 (c.from_ : Nat), .int .i64 (c.to_ : Nat), .string (bstr c.text)]) (.agg #[.int .i64 (d.from_ : Nat), .int .i64 (d.to_ : Nat), .string (bstr d.text)])).run Try.prog w = .ok (.bool false) w := by
  have hS : Try.prog.underlying 138 = some (.struct (Try.prog.fieldsOf 138)) := by kernel_rfl
  have hp : Try.prog.stoodInHeld 138 = false := by kernel_rfl
  have a3 := Try.isAgg3
  have z3 := Try.sizeOf3
  have u3 := Try.underlying3
  have a9 := Try.isAgg9
  have z9 := Try.sizeOf9
  have u9 := Try.underlying9
  rw [run_eql_struct, show (10000 : Nat) = 9999 + 1 from rfl, run_equalIn_agg w 9999 138 _ _ hS hp]
  simp only [Program.fieldsOf, Try.underlying138]
  go_simp
  have key : ¬ (c.from_ = d.from_ ∧ c.to_ = d.to_ ∧ c.text = d.text) := fun ⟨h1, h2, h3⟩ => h (by cases c; cases d; simp_all)
  intro e1 e2 e3
  exact key ⟨by omega, by omega, e3⟩
def lenOfS : Value → Nat
  | .slice _ n _ => n
  | _ => 0
/-- on the way through both -/
structure BothW (old : List UInt8) (P Q p q : List Diff.Ch) (at_ : Nat) (s : List UInt8) : Prop where
  same : Diff.mergeB old P Q 0 [] = Diff.mergeB old p q at_ s
  cp : Diff.Chain old.length at_ p
  cq : Diff.Chain old.length at_ q
  tp : ∀ c ∈ p, c.text.length ≤ 16000000
  tq : ∀ c ∈ q, c.text.length ≤ 16000000
  room : s.length + (p.length + q.length) * 16000000 ≤ at_ + 8000 * 16000000
theorem BothW.left {old : List UInt8} {P Q p q : List Diff.Ch} {c : Diff.Ch} {at_ : Nat} {s : List UInt8} (h : BothW old P Q (c :: p) q at_ s) (hs : Diff.mergeB old (c :: p) q at_ s = Diff.mergeB old p q c.to_ (s ++ Diff.sub old at_ c.from_ ++ c.text)) (hq : Diff.Chain old.length c.to_ q) : BothW old P Q p q c.to_ (s ++ Diff.sub old at_ c.from_ ++ c.text) := by
  obtain ⟨h1, h2, h3, h4, h5, h6⟩ := h
  have ht := h4 c (by simp)
  have hle := h2.2.2.le
  refine ⟨h1.trans hs, h2.2.2, hq, fun d hd => h4 d (by simp [hd]), h5, ?_⟩
  have := h2.1
  have := h2.2.1
  rw [List.length_append, List.length_append, Diff.sub_length _ _ _ (by omega)]
  simp only [List.length_cons] at h6
  omega
theorem BothW.right {old : List UInt8} {P Q p q : List Diff.Ch} {c : Diff.Ch} {at_ : Nat} {s : List UInt8} (h : BothW old P Q p (c :: q) at_ s) (hs : Diff.mergeB old p (c :: q) at_ s = Diff.mergeB old p q c.to_ (s ++ Diff.sub old at_ c.from_ ++ c.text)) (hp : Diff.Chain old.length c.to_ p) : BothW old P Q p q c.to_ (s ++ Diff.sub old at_ c.from_ ++ c.text) := by
  obtain ⟨h1, h2, h3, h4, h5, h6⟩ := h
  have ht := h5 c (by simp)
  have hle := h3.2.2.le
  refine ⟨h1.trans hs, hp, h3.2.2, h4, fun d hd => h5 d (by simp [hd]), ?_⟩
  have := h3.1
  have := h3.2.1
  rw [List.length_append, List.length_append, Diff.sub_length _ _ _ (by omega)]
  simp only [List.length_cons] at h6
  omega
theorem BothW.both {old : List UInt8} {P Q p q : List Diff.Ch} {c : Diff.Ch} {at_ : Nat} {s : List UInt8} (h : BothW old P Q (c :: p) (c :: q) at_ s) (hs : Diff.mergeB old (c :: p) (c :: q) at_ s = Diff.mergeB old p q c.to_ (s ++ Diff.sub old at_ c.from_ ++ c.text)) : BothW old P Q p q c.to_ (s ++ Diff.sub old at_ c.from_ ++ c.text) := by
  obtain ⟨h1, h2, h3, h4, h5, h6⟩ := h
  have ht := h5 c (by simp)
  have hle := h3.2.2.le
  refine ⟨h1.trans hs, h2.2.2, h3.2.2, fun d hd => h4 d (by simp [hd]), fun d hd => h5 d (by simp [hd]), ?_⟩
  have := h3.1
  have := h3.2.1
  rw [List.length_append, List.length_append, Diff.sub_length _ _ _ (by omega)]
  simp only [List.length_cons] at h6
  omega
theorem bstr_sub (l : List UInt8) (i j : Nat) : (bstr l).extract i j = bstr (Diff.sub l i j) := by
  rw [eq_bstr ((bstr l).extract i j)]
  congr 1
  simp [bstr, ByteArray.data_extract, List.extract, Diff.sub]
set_option maxHeartbeats 4000000 in
set_option maxRecDepth 100000 in
theorem Both_any (old a b : List UInt8) (w : World) (h1 : old.length + a.length ≤ 4000) (h2 : old.length + b.length ≤ 4000) :
    Calls Try.prog 52 #[.string (bstr old), .string (bstr a), .string (bstr b)] w fun e w' => ((∃ r, Diff.mergeB old (Diff.chs (Diff.edits old a)) (Diff.chs (Diff.edits old b)) 0 [] = some r ∧ e = .returned (.tuple #[.string (bstr r), .bool true, .nilIface])) ∨ Diff.mergeB old (Diff.chs (Diff.edits old a)) (Diff.chs (Diff.edits old b)) 0 [] = none ∧ e = .returned (.tuple #[.string (bstr a), .bool false, .nilIface])) ∧ Below w.heap.size w w' := by
  obtain ⟨B, hB⟩ : ∃ B, B = w.heap.size := ⟨_, rfl⟩
  rw [← hB]
  have HB := Lib.hid hB; clear hB
  have HX := Lib.hid (fun w => Edits_any old a w h1)
  have HY := Lib.hid (fun w => Edits_any old b w h2)
  have HP := Lib.hid (Diff.chs_edits old a).1
  have HQ := Lib.hid (Diff.chs_edits old b).1
  generalize hE1 : Diff.edits old a = E1 at *
  generalize hE2 : Diff.edits old b = E2 at *
  go_enter Try.func52, Try.ntmps52
  go_wp2_with fail
  refine (HX.out _).mono ?_
  rintro e w1 ⟨x1, n1, c1, rfl, hn1, hn14, ho1, hf1, hb1⟩
  rw [← HB.out] at hb1
  have hs1 := hb1.size
  have hl1 := ho1.blk_lt
  have HN1 := Lib.hid hn1; clear hn1
  have HF1 := Lib.hid hf1; clear hf1
  go_wp2_with fail
  refine (HY.out _).mono ?_
  rintro e w2 ⟨x2, n2, c2, rfl, hn2, hn24, ho2, hf2, hb2⟩
  replace ho1 := ho1.below hb2 (Nat.le_refl _)
  have hs2 := hb2.size
  replace hb1 := hb1.trans (hb2.mono (by have := HB.out; omega))
  have HN2 := Lib.hid hn2; clear hn2
  have HF2 := Lib.hid hf2; clear hf2
  clear hb2
  go_wp2_with fail
  refine (changes_any x1 n1 c1 _ E1 _ ho1 HN1.out.symm hn14 HF1.out).mono ?_
  rintro e w3 ⟨x3, n3, c3, rfl, hn3, hn34, ho3, hf3, hb3⟩
  replace ho2 := ho2.below hb3 (Nat.le_refl _)
  have hs3 := hb3.size
  replace hb1 := hb1.trans (hb3.mono (by have := HB.out; omega))
  have HN3 := Lib.hid hn3; clear hn3
  have HF3 := Lib.hid hf3; clear hf3
  clear ho1 hb3
  go_wp2_with fail
  refine (changes_any x2 n2 c2 _ E2 _ ho2 HN2.out.symm hn24 HF2.out).mono ?_
  rintro e w4 ⟨x4, n4, c4, rfl, hn4, hn44, ho4, hf4, hb4⟩
  replace ho3 := ho3.below hb4 (Nat.le_refl _)
  have hs4 := hb4.size
  replace hb1 := hb1.trans (hb4.mono (by have := HB.out; omega))
  have HN4 := Lib.hid hn4; clear hn4
  have HF4 := Lib.hid hf4; clear hf4
  clear ho2 hb4
  have hrp := ReadsC.owns (B1 := w4.heap.size) ho3 HN3.out.symm (Nat.le_refl _)
  have hrq := ReadsC.owns (B1 := w4.heap.size) ho4 HN4.out.symm (Nat.le_refl _)
  clear ho3 ho4 hl1
  have HBD := Lib.hid (show (∀ c ∈ Diff.chs E1, c.text.length ≤ 16000000) ∧ (∀ c ∈ Diff.chs E2, c.text.length ≤ 16000000) from ⟨fun c hc => (HF3.out c hc).2.2, fun c hc => (HF4.out c hc).2.2⟩)
  have hln3 : (Diff.chs E1).length ≤ 4000 := by have := HN3.out; omega
  have hln4 : (Diff.chs E2).length ≤ 4000 := by have := HN4.out; omega
  clear HN1 HN2 HN3 HN4 HF1 HF2 HF3 HF4 HX HY
  generalize hP : Diff.chs E1 = P at *
  generalize hQ : Diff.chs E2 = Q at *
  have HPE := Lib.hid hP; clear hP hE1
  have HQE := Lib.hid hQ; clear hQ hE2
  have hbB : B ≤ w4.heap.size := by have := HB.out; omega
  clear hs1 hs2 hs3 hs4
  have hw0 : BothW old P Q P Q 0 [] := ⟨rfl, HP.out, HQ.out, HBD.out.1, HBD.out.2, by simp; omega⟩
  have HW0 := Lib.hid hw0; clear hw0 HP HQ HBD
  have hfr := IsB.fresh w4
  go_wp2_with fail
  have hb5 : Below w4.heap.size w4 (w4.alloc (.cells #[.pointer none, .slice none 0 0] 136)) := (Below.refl _ _).alloc (Nat.le_refl _) _
  have HRP := Lib.hid hrp; clear hrp
  have HRQ := Lib.hid hrq; clear hrq
  obtain ⟨B4, hB4⟩ : ∃ B4, B4 = w4.heap.size := ⟨_, rfl⟩
  rw [← hB4] at hfr hb5 HRP HRQ hbB ⊢
  have HB4 := Lib.hid hB4; clear hB4
  go_loopw [13, 14, 16] (fun v13 v14 v16 wr => ∃ (p q : List Diff.Ch) (at_ : Nat) (s : List UInt8) (xp xq : Option Addr) (lp kp lq kq : Nat), v13 = .slice xp lp kp ∧ v14 = .slice xq lq kq ∧ v16 = .int .i64 (at_ : Nat) ∧ Hid (ReadsC w4 B4 xp lp kp p) ∧ Hid (ReadsC w4 B4 xq lq kq q) ∧ Hid (IsB B4 B4 s wr) ∧ Hid (BothW old P Q p q at_ s) ∧ Below B4 w4 wr) (fun v13 v14 _ _ => lenOfS v13 + lenOfS v14)
  case atStart => exact ⟨P, Q, 0, [], x3, x4, n3, c3, n4, c4, rfl, rfl, rfl, HRP, HRQ, Lib.hid hfr, HW0, hb5⟩
  case round =>
    clear HRP HRQ hfr hb5 HW0
    obtain ⟨p, q, at_, s, xp, xq, lp, kp, lq, kq, rfl, rfl, rfl, HRP, HRQ, HS, HW, hbe⟩ := hrel
    have hwsz : B4 ≤ wr.heap.size := by have := hbe.size; have := HB4.out; omega
    cases p with
    | nil =>
      have hnp : lp = 0 := by have := HRP.out.1; simpa using this.symm
      subst hnp
      cases q with
      | nil =>
        have hnq : lq = 0 := by have := HRQ.out.1; simpa using this.symm
        subst hnq
        have hle : at_ ≤ old.length := HW.out.cp
        have hleI : (at_ : Int) ≤ (old.length : Int) := by omega
        have hex := bstr_sub old at_ old.length
        rw [Diff.sub_end] at hex
        have hroom := HW.out.room
        have hsz1 : s.length ≤ 128000004000 := by simp only [List.length_nil] at hroom; omega
        clear hroom
        generalize hU : old.drop at_ = U at *
        have hUl : U.length ≤ 4000 := by rw [← hU, List.length_drop]; omega
        have HU := Lib.hid hU; clear hU
        have hcat : ¬ 9223372036854775807 < s.length + U.length := by omega
        have HS2 := Lib.hid (IsB.below HS.out (Below.refl _ _).drew)
        have hwsz2 : B4 ≤ wr.drew.heap.size := hwsz
        have hstr := fun w => Bd.string B4 B4 s w
        go_wp2_with fail
        go_region_with (go_at_call 84; refine (hstr _ HS2.out hwsz2).mono ?_; rintro e w6 ⟨rfl, hb6⟩)
        all_goals
          go_wp2_with fail
          go_ret3
          refine ⟨.inl ⟨s ++ U, ?_, ?_⟩, ?_⟩
          · rw [HPE.out, HQE.out, HW.out.same, Diff.mergeB, HU.out]
          · rfl
          · have hq := hbe.drew.trans (hb6.mono (Nat.le_refl _))
            exact hb1.trans (hq.mono hbB)
      | cons d q =>
        obtain ⟨gq, oq, rfl, hnq, hcq, hC, hV⟩ := HRQ.out.head
        have hp0lq_ : (0 : Int) < (lq : Int) := by omega
        have hp1lq_ : decide ((0 : Int) < (lq : Int)) = true := by rw [decide_eq_true_eq]; omega
        have hp1nlq_ : decide (0 < lq) = true := by rw [decide_eq_true_eq]; omega
        have hp2lq_ : (1 : Int) ≤ (lq : Int) := by omega
        have hp3lq_ : (lq : Int) ≤ (kq : Int) := by omega
        have hp4lq_ : ((lq : Int) == 0) = false := by rw [beq_eq_false_iff_ne]; omega
        have HC := Lib.hid hC; clear hC
        have HV := Lib.hid hV; clear hV
        have HNlq_ := Lib.hid hnq; clear hnq
        have hch := HW.out.cq
        have hfr : at_ ≤ d.from_ := hch.1
        have hto : d.from_ ≤ d.to_ := hch.2.1
        have hle : d.to_ ≤ old.length := hch.2.2.le
        clear hch
        have hfrI : (at_ : Int) ≤ (d.from_ : Int) := by omega
        have hleI : (d.from_ : Int) ≤ (old.length : Int) := by omega
        have hsl := Diff.sub_length old at_ d.from_ (by omega)
        have hex := bstr_sub old at_ d.from_
        generalize hU : Diff.sub old at_ d.from_ = U at *
        have HU := Lib.hid hU; clear hU
        have hUl : U.length ≤ 4000 := by omega
        clear hsl
        have hct : d.text.length ≤ 16000000 := HW.out.tq d (by simp)
        have hroom := HW.out.room
        have hsz1 : s.length ≤ 128000004000 := by simp only [List.length_cons] at hroom; omega
        clear hroom
        have hcat : ¬ 9223372036854775807 < U.length + d.text.length := by omega
        go_wp2_with fail
        have HBW := Lib.hid (BW.start hwsz hbe HS.out)
        clear hbe HS
        generalize hbx : wr.heap.size = bx at *
        clear hbx
        generalize wr.alloc (.cells #[.int .i64 0, .int .i64 0, .string ⟨#[]⟩] 138) = wz at *
        obtain ⟨d0, d1, d2⟩ := HC.out _ HBW.out.bel
        obtain ⟨⟨z0, z1, z2⟩, g0, g1, g2⟩ := HBW.out.all
        go_quiet (fail)
        replace HBW := Lib.hid (HBW.out.drewN nq)
        clear z0 z1 z2 g0 g1 g2 d0 d1 d2
        generalize wz.drewN nq = v1 at *
        obtain ⟨d0, d1, d2⟩ := HC.out _ HBW.out.bel
        obtain ⟨⟨z0, z1, z2⟩, g0, g1, g2⟩ := HBW.out.all
        go_wp2_with fail
        go_quiet (fail)
        replace HBW := Lib.hid (HBW.out.drewN nq)
        clear z0 z1 z2 g0 g1 g2 d0 d1 d2
        generalize v1.drewN nq = v2 at *
        obtain ⟨d0, d1, d2⟩ := HC.out _ HBW.out.bel
        obtain ⟨⟨z0, z1, z2⟩, g0, g1, g2⟩ := HBW.out.all
        go_wp2_with fail
        go_quiet (fail)
        replace HBW := Lib.hid (HBW.out.drewN nq)
        clear z0 z1 z2 g0 g1 g2 d0 d1 d2
        generalize v2.drewN nq = v3 at *
        obtain ⟨d0, d1, d2⟩ := HC.out _ HBW.out.bel
        obtain ⟨⟨z0, z1, z2⟩, g0, g1, g2⟩ := HBW.out.all
        go_wp2_with fail
        all_goals
          have HBX := Lib.hid (HBW.out.fill d)
          clear z0 z1 z2 g0 g1 g2 d0 d1 d2
          generalize ((v3.setCell ⟨bx, 0, none⟩ (.int .i64 (d.from_ : Nat))).setCell ⟨bx, 1, none⟩ (.int .i64 (d.to_ : Nat))).setCell ⟨bx, 2, none⟩ (.string (bstr d.text)) = w8 at *
          obtain ⟨k0, k1, k2⟩ := HBX.out.cells
          go_still_tail 8, (by kernel_rfl)
          change wpList _ _ _ _ _ w8.drew
          replace HBX := Lib.hid HBX.out.drew
          clear k0 k1 k2
          generalize w8.drew = w9 at *
          obtain ⟨k0, k1, k2⟩ := HBX.out.cells
          go_wp2_with fail
          refine (WriteString_any B4 B4 s (U ++ d.text) _ HBX.out.isb (by rw [List.length_append]; omega) HBX.out.size).mono ?_
          rintro e w10 ⟨rfl, his, hb10, hkeep⟩
          have HBY := Lib.hid (show BW B4 bx d (s ++ (U ++ d.text)) w4 w10 from ⟨hkeep _ _ _ _ HBX.out.ne (by decide) HBX.out.box, his, HBX.out.bel.trans (hb10.mono (Nat.le_refl _)), HBX.out.hi, Nat.le_trans HBX.out.size hb10.size⟩)
          clear k0 k1 k2 hkeep his hb10
          obtain ⟨k0, k1, k2⟩ := HBY.out.cells
          go_wp2_with fail
          go_roundw
          case rel => exact ⟨[], q, d.to_, s ++ (U ++ d.text), _, _, _, _, _, _, rfl, rfl, rfl, Lib.hid (by first | exact HRP.out), Lib.hid (by first | exact HV.out.1 ‹_› | exact HV.out.2), Lib.hid HBY.out.isb, Lib.hid (by rw [← HU.out, ← List.append_assoc]; exact HW.out.right (by rw [Diff.mergeB]) (by exact hle)), HBY.out.bel⟩
          case measure => simp [lenOfS]; omega
    | cons c p =>
      obtain ⟨gp, op, rfl, hnp, hcp, hA, hT⟩ := HRP.out.head
      have hp0lp_ : (0 : Int) < (lp : Int) := by omega
      have hp1lp_ : decide ((0 : Int) < (lp : Int)) = true := by rw [decide_eq_true_eq]; omega
      have hp1nlp_ : decide (0 < lp) = true := by rw [decide_eq_true_eq]; omega
      have hp2lp_ : (1 : Int) ≤ (lp : Int) := by omega
      have hp3lp_ : (lp : Int) ≤ (kp : Int) := by omega
      have hp4lp_ : ((lp : Int) == 0) = false := by rw [beq_eq_false_iff_ne]; omega
      have HA := Lib.hid hA; clear hA
      have HT := Lib.hid hT; clear hT
      have HNlp_ := Lib.hid hnp; clear hnp
      cases q with
      | nil =>
        have hnq : lq = 0 := by have := HRQ.out.1; simpa using this.symm
        subst hnq
        have hch := HW.out.cp
        have hfr : at_ ≤ c.from_ := hch.1
        have hto : c.from_ ≤ c.to_ := hch.2.1
        have hle : c.to_ ≤ old.length := hch.2.2.le
        clear hch
        have hfrI : (at_ : Int) ≤ (c.from_ : Int) := by omega
        have hleI : (c.from_ : Int) ≤ (old.length : Int) := by omega
        have hsl := Diff.sub_length old at_ c.from_ (by omega)
        have hex := bstr_sub old at_ c.from_
        generalize hU : Diff.sub old at_ c.from_ = U at *
        have HU := Lib.hid hU; clear hU
        have hUl : U.length ≤ 4000 := by omega
        clear hsl
        have hct : c.text.length ≤ 16000000 := HW.out.tp c (by simp)
        have hroom := HW.out.room
        have hsz1 : s.length ≤ 128000004000 := by simp only [List.length_cons] at hroom; omega
        clear hroom
        have hcat : ¬ 9223372036854775807 < U.length + c.text.length := by omega
        go_wp2_with fail
        have HBW := Lib.hid (BW.start hwsz hbe HS.out)
        clear hbe HS
        generalize hbx : wr.heap.size = bx at *
        clear hbx
        generalize wr.alloc (.cells #[.int .i64 0, .int .i64 0, .string ⟨#[]⟩] 138) = wz at *
        obtain ⟨a0, a1, a2⟩ := HA.out _ HBW.out.bel
        obtain ⟨⟨z0, z1, z2⟩, g0, g1, g2⟩ := HBW.out.all
        go_quiet (fail)
        replace HBW := Lib.hid (HBW.out.drewN nq)
        clear z0 z1 z2 g0 g1 g2 a0 a1 a2
        generalize wz.drewN nq = v4 at *
        obtain ⟨a0, a1, a2⟩ := HA.out _ HBW.out.bel
        obtain ⟨⟨z0, z1, z2⟩, g0, g1, g2⟩ := HBW.out.all
        go_wp2_with fail
        go_quiet (fail)
        replace HBW := Lib.hid (HBW.out.drewN nq)
        clear z0 z1 z2 g0 g1 g2 a0 a1 a2
        generalize v4.drewN nq = v5 at *
        obtain ⟨a0, a1, a2⟩ := HA.out _ HBW.out.bel
        obtain ⟨⟨z0, z1, z2⟩, g0, g1, g2⟩ := HBW.out.all
        go_wp2_with fail
        go_quiet (fail)
        replace HBW := Lib.hid (HBW.out.drewN nq)
        clear z0 z1 z2 g0 g1 g2 a0 a1 a2
        generalize v5.drewN nq = v6 at *
        obtain ⟨a0, a1, a2⟩ := HA.out _ HBW.out.bel
        obtain ⟨⟨z0, z1, z2⟩, g0, g1, g2⟩ := HBW.out.all
        go_wp2_with fail
        all_goals
          have HBX := Lib.hid (HBW.out.fill c)
          clear z0 z1 z2 g0 g1 g2 a0 a1 a2
          generalize ((v6.setCell ⟨bx, 0, none⟩ (.int .i64 (c.from_ : Nat))).setCell ⟨bx, 1, none⟩ (.int .i64 (c.to_ : Nat))).setCell ⟨bx, 2, none⟩ (.string (bstr c.text)) = w8 at *
          obtain ⟨k0, k1, k2⟩ := HBX.out.cells
          go_still_tail 8, (by kernel_rfl)
          change wpList _ _ _ _ _ w8.drew
          replace HBX := Lib.hid HBX.out.drew
          clear k0 k1 k2
          generalize w8.drew = w9 at *
          obtain ⟨k0, k1, k2⟩ := HBX.out.cells
          go_wp2_with fail
          refine (WriteString_any B4 B4 s (U ++ c.text) _ HBX.out.isb (by rw [List.length_append]; omega) HBX.out.size).mono ?_
          rintro e w10 ⟨rfl, his, hb10, hkeep⟩
          have HBY := Lib.hid (show BW B4 bx c (s ++ (U ++ c.text)) w4 w10 from ⟨hkeep _ _ _ _ HBX.out.ne (by decide) HBX.out.box, his, HBX.out.bel.trans (hb10.mono (Nat.le_refl _)), HBX.out.hi, Nat.le_trans HBX.out.size hb10.size⟩)
          clear k0 k1 k2 hkeep his hb10
          obtain ⟨k0, k1, k2⟩ := HBY.out.cells
          go_wp2_with fail
          go_roundw
          case rel => exact ⟨p, [], c.to_, s ++ (U ++ c.text), _, _, _, _, _, _, rfl, rfl, rfl, Lib.hid (by first | exact HT.out.1 ‹_› | exact HT.out.2), Lib.hid (by first | exact HRQ.out), Lib.hid HBY.out.isb, Lib.hid (by rw [← HU.out, ← List.append_assoc]; exact HW.out.left (by rw [Diff.mergeB]) (by exact hle)), HBY.out.bel⟩
          case measure => simp [lenOfS]; omega
      | cons d q =>
        obtain ⟨gq, oq, rfl, hnq, hcq, hC, hV⟩ := HRQ.out.head
        have hp0lq_ : (0 : Int) < (lq : Int) := by omega
        have hp1lq_ : decide ((0 : Int) < (lq : Int)) = true := by rw [decide_eq_true_eq]; omega
        have hp1nlq_ : decide (0 < lq) = true := by rw [decide_eq_true_eq]; omega
        have hp2lq_ : (1 : Int) ≤ (lq : Int) := by omega
        have hp3lq_ : (lq : Int) ≤ (kq : Int) := by omega
        have hp4lq_ : ((lq : Int) == 0) = false := by rw [beq_eq_false_iff_ne]; omega
        have HC := Lib.hid hC; clear hC
        have HV := Lib.hid hV; clear hV
        have HNlq_ := Lib.hid hnq; clear hnq
        by_cases hcd : c = d
        · subst hcd
          have hch := HW.out.cp
          have hfr : at_ ≤ c.from_ := hch.1
          have hto : c.from_ ≤ c.to_ := hch.2.1
          have hle : c.to_ ≤ old.length := hch.2.2.le
          clear hch
          have hfrI : (at_ : Int) ≤ (c.from_ : Int) := by omega
          have hleI : (c.from_ : Int) ≤ (old.length : Int) := by omega
          have hsl := Diff.sub_length old at_ c.from_ (by omega)
          have hex := bstr_sub old at_ c.from_
          generalize hU : Diff.sub old at_ c.from_ = U at *
          have HU := Lib.hid hU; clear hU
          have hUl : U.length ≤ 4000 := by omega
          clear hsl
          have hct : c.text.length ≤ 16000000 := HW.out.tp c (by simp)
          have hroom := HW.out.room
          have hsz1 : s.length ≤ 128000004000 := by simp only [List.length_cons] at hroom; omega
          clear hroom
          have hcat : ¬ 9223372036854775807 < U.length + c.text.length := by omega
          go_wp2_with fail
          have HBW := Lib.hid (BW.start hwsz hbe HS.out)
          clear hbe HS
          generalize hbx : wr.heap.size = bx at *
          clear hbx
          generalize wr.alloc (.cells #[.int .i64 0, .int .i64 0, .string ⟨#[]⟩] 138) = wz at *
          obtain ⟨a0, a1, a2⟩ := HA.out _ HBW.out.bel
          obtain ⟨d0, d1, d2⟩ := HC.out _ HBW.out.bel
          obtain ⟨⟨z0, z1, z2⟩, g0, g1, g2⟩ := HBW.out.all
          go_quiet (fail)
          replace HBW := Lib.hid (HBW.out.drewN nq)
          clear z0 z1 z2 g0 g1 g2 a0 a1 a2 d0 d1 d2
          generalize wz.drewN nq = v7 at *
          obtain ⟨a0, a1, a2⟩ := HA.out _ HBW.out.bel
          obtain ⟨d0, d1, d2⟩ := HC.out _ HBW.out.bel
          obtain ⟨⟨z0, z1, z2⟩, g0, g1, g2⟩ := HBW.out.all
          go_wp2_with fail
          have HBX := Lib.hid (HBW.out.fill c)
          clear z0 z1 z2 g0 g1 g2 a0 a1 a2 d0 d1 d2
          generalize ((v7.setCell ⟨bx, 0, none⟩ (.int .i64 (c.from_ : Nat))).setCell ⟨bx, 1, none⟩ (.int .i64 (c.to_ : Nat))).setCell ⟨bx, 2, none⟩ (.string (bstr c.text)) = w8 at *
          by_cases hk1 : kp = 1 <;> by_cases hk2 : kq = 1
          all_goals
            go_quiet (fail)
            replace HBX := Lib.hid (HBX.out.drewN nq)
            generalize w8.drewN nq = w8b at *
            go_wp2_with fail
            obtain ⟨k0, k1, k2⟩ := HBX.out.cells
            go_still_tail 8, (by kernel_rfl)
            change wpList _ _ _ _ _ w8b.drew
            replace HBX := Lib.hid HBX.out.drew
            clear k0 k1 k2
            generalize w8b.drew = w9 at *
            obtain ⟨k0, k1, k2⟩ := HBX.out.cells
            go_wp2_with fail
            refine (WriteString_any B4 B4 s (U ++ c.text) _ HBX.out.isb (by rw [List.length_append]; omega) HBX.out.size).mono ?_
            rintro e w10 ⟨rfl, his, hb10, hkeep⟩
            have HBY := Lib.hid (show BW B4 bx c (s ++ (U ++ c.text)) w4 w10 from ⟨hkeep _ _ _ _ HBX.out.ne (by decide) HBX.out.box, his, HBX.out.bel.trans (hb10.mono (Nat.le_refl _)), HBX.out.hi, Nat.le_trans HBX.out.size hb10.size⟩)
            clear k0 k1 k2 hkeep his hb10
            obtain ⟨k0, k1, k2⟩ := HBY.out.cells
            go_wp2_with fail
            go_roundw
            case rel => exact ⟨p, q, c.to_, s ++ (U ++ c.text), _, _, _, _, _, _, rfl, rfl, rfl, Lib.hid (by first | exact HT.out.1 hk1 | exact HT.out.2), Lib.hid (by first | exact HV.out.1 hk2 | exact HV.out.2), Lib.hid HBY.out.isb, Lib.hid (by rw [← HU.out, ← List.append_assoc]; exact HW.out.both (by rw [Diff.mergeB, if_pos rfl])), HBY.out.bel⟩
            case measure => simp [lenOfS]; omega
        · have hx : True := trivial
          have heq := run_chEq c d hcd
          have hcft := HW.out.cp.2.1
          have hdft := HW.out.cq.2.1
          by_cases ht : c.from_ ≤ d.to_ ∧ d.from_ ≤ c.to_
          · have u1 : decide ((c.from_ : Int) ≤ (d.to_ : Int)) = true := by rw [decide_eq_true_eq]; omega
            have u1n : decide (c.from_ ≤ d.to_) = true := by rw [decide_eq_true_eq]; omega
            have u2 : decide ((d.from_ : Int) ≤ (c.to_ : Int)) = true := by rw [decide_eq_true_eq]; omega
            have u2n : decide (d.from_ ≤ c.to_) = true := by rw [decide_eq_true_eq]; omega
            go_wp2_with fail
            have HBW := Lib.hid (BW.start hwsz hbe HS.out)
            clear hbe HS
            generalize hbx : wr.heap.size = bx at *
            clear hbx
            generalize wr.alloc (.cells #[.int .i64 0, .int .i64 0, .string ⟨#[]⟩] 138) = wz at *
            obtain ⟨a0, a1, a2⟩ := HA.out _ HBW.out.bel
            obtain ⟨d0, d1, d2⟩ := HC.out _ HBW.out.bel
            obtain ⟨⟨z0, z1, z2⟩, g0, g1, g2⟩ := HBW.out.all
            go_quiet (fail)
            replace HBW := Lib.hid (HBW.out.drewN nq)
            clear z0 z1 z2 g0 g1 g2 a0 a1 a2 d0 d1 d2
            generalize wz.drewN nq = v8 at *
            obtain ⟨a0, a1, a2⟩ := HA.out _ HBW.out.bel
            obtain ⟨d0, d1, d2⟩ := HC.out _ HBW.out.bel
            obtain ⟨⟨z0, z1, z2⟩, g0, g1, g2⟩ := HBW.out.all
            go_wp2_with fail
            go_quiet (fail)
            replace HBW := Lib.hid (HBW.out.drewN nq)
            clear z0 z1 z2 g0 g1 g2 a0 a1 a2 d0 d1 d2
            generalize v8.drewN nq = v9 at *
            obtain ⟨a0, a1, a2⟩ := HA.out _ HBW.out.bel
            obtain ⟨d0, d1, d2⟩ := HC.out _ HBW.out.bel
            obtain ⟨⟨z0, z1, z2⟩, g0, g1, g2⟩ := HBW.out.all
            go_wp2_with fail
            go_ret3
            refine ⟨.inr ⟨?_, rfl⟩, hb1.trans (HBW.out.bel.mono hbB)⟩
            rw [HPE.out, HQE.out, HW.out.same, Diff.mergeB, if_neg hcd, if_pos ht]
          · by_cases hlt : c.from_ < d.from_
            · have u1 : decide ((c.from_ : Int) ≤ (d.to_ : Int)) = true := by rw [decide_eq_true_eq]; omega
              have u1n : decide (c.from_ ≤ d.to_) = true := by rw [decide_eq_true_eq]; omega
              have u2 : decide ((d.from_ : Int) ≤ (c.to_ : Int)) = false := by rw [decide_eq_false_iff_not]; omega
              have u2n : decide (d.from_ ≤ c.to_) = false := by rw [decide_eq_false_iff_not]; omega
              have u3 : decide ((c.from_ : Int) < (d.from_ : Int)) = true := by rw [decide_eq_true_eq]; omega
              have u3n : decide (c.from_ < d.from_) = true := by rw [decide_eq_true_eq]; omega
              have hch := HW.out.cp
              have hfr : at_ ≤ c.from_ := hch.1
              have hto : c.from_ ≤ c.to_ := hch.2.1
              have hle : c.to_ ≤ old.length := hch.2.2.le
              clear hch
              have hfrI : (at_ : Int) ≤ (c.from_ : Int) := by omega
              have hleI : (c.from_ : Int) ≤ (old.length : Int) := by omega
              have hsl := Diff.sub_length old at_ c.from_ (by omega)
              have hex := bstr_sub old at_ c.from_
              generalize hU : Diff.sub old at_ c.from_ = U at *
              have HU := Lib.hid hU; clear hU
              have hUl : U.length ≤ 4000 := by omega
              clear hsl
              have hct : c.text.length ≤ 16000000 := HW.out.tp c (by simp)
              have hroom := HW.out.room
              have hsz1 : s.length ≤ 128000004000 := by simp only [List.length_cons] at hroom; omega
              clear hroom
              have hcat : ¬ 9223372036854775807 < U.length + c.text.length := by omega
              go_wp2_with fail
              have HBW := Lib.hid (BW.start hwsz hbe HS.out)
              clear hbe HS
              generalize hbx : wr.heap.size = bx at *
              clear hbx
              generalize wr.alloc (.cells #[.int .i64 0, .int .i64 0, .string ⟨#[]⟩] 138) = wz at *
              obtain ⟨a0, a1, a2⟩ := HA.out _ HBW.out.bel
              obtain ⟨d0, d1, d2⟩ := HC.out _ HBW.out.bel
              obtain ⟨⟨z0, z1, z2⟩, g0, g1, g2⟩ := HBW.out.all
              go_quiet (fail)
              replace HBW := Lib.hid (HBW.out.drewN nq)
              clear z0 z1 z2 g0 g1 g2 a0 a1 a2 d0 d1 d2
              generalize wz.drewN nq = v10 at *
              obtain ⟨a0, a1, a2⟩ := HA.out _ HBW.out.bel
              obtain ⟨d0, d1, d2⟩ := HC.out _ HBW.out.bel
              obtain ⟨⟨z0, z1, z2⟩, g0, g1, g2⟩ := HBW.out.all
              go_wp2_with fail
              go_quiet (fail)
              replace HBW := Lib.hid (HBW.out.drewN nq)
              clear z0 z1 z2 g0 g1 g2 a0 a1 a2 d0 d1 d2
              generalize v10.drewN nq = v11 at *
              obtain ⟨a0, a1, a2⟩ := HA.out _ HBW.out.bel
              obtain ⟨d0, d1, d2⟩ := HC.out _ HBW.out.bel
              obtain ⟨⟨z0, z1, z2⟩, g0, g1, g2⟩ := HBW.out.all
              go_wp2_with fail
              go_quiet (fail)
              replace HBW := Lib.hid (HBW.out.drewN nq)
              clear z0 z1 z2 g0 g1 g2 a0 a1 a2 d0 d1 d2
              generalize v11.drewN nq = v12 at *
              obtain ⟨a0, a1, a2⟩ := HA.out _ HBW.out.bel
              obtain ⟨d0, d1, d2⟩ := HC.out _ HBW.out.bel
              obtain ⟨⟨z0, z1, z2⟩, g0, g1, g2⟩ := HBW.out.all
              go_wp2_with fail
              all_goals
                have HBX := Lib.hid (HBW.out.fill c)
                clear z0 z1 z2 g0 g1 g2 a0 a1 a2 d0 d1 d2
                generalize ((v12.setCell ⟨bx, 0, none⟩ (.int .i64 (c.from_ : Nat))).setCell ⟨bx, 1, none⟩ (.int .i64 (c.to_ : Nat))).setCell ⟨bx, 2, none⟩ (.string (bstr c.text)) = w8 at *
                obtain ⟨k0, k1, k2⟩ := HBX.out.cells
                go_still_tail 8, (by kernel_rfl)
                change wpList _ _ _ _ _ w8.drew
                replace HBX := Lib.hid HBX.out.drew
                clear k0 k1 k2
                generalize w8.drew = w9 at *
                obtain ⟨k0, k1, k2⟩ := HBX.out.cells
                go_wp2_with fail
                refine (WriteString_any B4 B4 s (U ++ c.text) _ HBX.out.isb (by rw [List.length_append]; omega) HBX.out.size).mono ?_
                rintro e w10 ⟨rfl, his, hb10, hkeep⟩
                have HBY := Lib.hid (show BW B4 bx c (s ++ (U ++ c.text)) w4 w10 from ⟨hkeep _ _ _ _ HBX.out.ne (by decide) HBX.out.box, his, HBX.out.bel.trans (hb10.mono (Nat.le_refl _)), HBX.out.hi, Nat.le_trans HBX.out.size hb10.size⟩)
                clear k0 k1 k2 hkeep his hb10
                obtain ⟨k0, k1, k2⟩ := HBY.out.cells
                go_wp2_with fail
                go_roundw
                case rel => exact ⟨p, d :: q, c.to_, s ++ (U ++ c.text), _, _, _, _, _, _, rfl, rfl, rfl, Lib.hid (by first | exact HT.out.1 ‹_› | exact HT.out.2), Lib.hid (by first | exact HRQ.out), Lib.hid HBY.out.isb, Lib.hid (by rw [← HU.out, ← List.append_assoc]; exact HW.out.left (by rw [Diff.mergeB, if_neg hcd, if_neg ht, if_pos hlt]) (HW.out.cq.from_low (by omega))), HBY.out.bel⟩
                case measure => simp [lenOfS]; omega
            · have u1 : decide ((c.from_ : Int) ≤ (d.to_ : Int)) = false := by rw [decide_eq_false_iff_not]; omega
              have u1n : decide (c.from_ ≤ d.to_) = false := by rw [decide_eq_false_iff_not]; omega
              have u2 : decide ((d.from_ : Int) ≤ (c.to_ : Int)) = true := by rw [decide_eq_true_eq]; omega
              have u2n : decide (d.from_ ≤ c.to_) = true := by rw [decide_eq_true_eq]; omega
              have u3 : decide ((c.from_ : Int) < (d.from_ : Int)) = false := by rw [decide_eq_false_iff_not]; omega
              have u3n : decide (c.from_ < d.from_) = false := by rw [decide_eq_false_iff_not]; omega
              have hch := HW.out.cq
              have hfr : at_ ≤ d.from_ := hch.1
              have hto : d.from_ ≤ d.to_ := hch.2.1
              have hle : d.to_ ≤ old.length := hch.2.2.le
              clear hch
              have hfrI : (at_ : Int) ≤ (d.from_ : Int) := by omega
              have hleI : (d.from_ : Int) ≤ (old.length : Int) := by omega
              have hsl := Diff.sub_length old at_ d.from_ (by omega)
              have hex := bstr_sub old at_ d.from_
              generalize hU : Diff.sub old at_ d.from_ = U at *
              have HU := Lib.hid hU; clear hU
              have hUl : U.length ≤ 4000 := by omega
              clear hsl
              have hct : d.text.length ≤ 16000000 := HW.out.tq d (by simp)
              have hroom := HW.out.room
              have hsz1 : s.length ≤ 128000004000 := by simp only [List.length_cons] at hroom; omega
              clear hroom
              have hcat : ¬ 9223372036854775807 < U.length + d.text.length := by omega
              go_wp2_with fail
              have HBW := Lib.hid (BW.start hwsz hbe HS.out)
              clear hbe HS
              generalize hbx : wr.heap.size = bx at *
              clear hbx
              generalize wr.alloc (.cells #[.int .i64 0, .int .i64 0, .string ⟨#[]⟩] 138) = wz at *
              obtain ⟨a0, a1, a2⟩ := HA.out _ HBW.out.bel
              obtain ⟨d0, d1, d2⟩ := HC.out _ HBW.out.bel
              obtain ⟨⟨z0, z1, z2⟩, g0, g1, g2⟩ := HBW.out.all
              go_quiet (fail)
              replace HBW := Lib.hid (HBW.out.drewN nq)
              clear z0 z1 z2 g0 g1 g2 a0 a1 a2 d0 d1 d2
              generalize wz.drewN nq = v13 at *
              obtain ⟨a0, a1, a2⟩ := HA.out _ HBW.out.bel
              obtain ⟨d0, d1, d2⟩ := HC.out _ HBW.out.bel
              obtain ⟨⟨z0, z1, z2⟩, g0, g1, g2⟩ := HBW.out.all
              go_wp2_with fail
              go_quiet (fail)
              replace HBW := Lib.hid (HBW.out.drewN nq)
              clear z0 z1 z2 g0 g1 g2 a0 a1 a2 d0 d1 d2
              generalize v13.drewN nq = v14 at *
              obtain ⟨a0, a1, a2⟩ := HA.out _ HBW.out.bel
              obtain ⟨d0, d1, d2⟩ := HC.out _ HBW.out.bel
              obtain ⟨⟨z0, z1, z2⟩, g0, g1, g2⟩ := HBW.out.all
              go_wp2_with fail
              go_quiet (fail)
              replace HBW := Lib.hid (HBW.out.drewN nq)
              clear z0 z1 z2 g0 g1 g2 a0 a1 a2 d0 d1 d2
              generalize v14.drewN nq = v15 at *
              obtain ⟨a0, a1, a2⟩ := HA.out _ HBW.out.bel
              obtain ⟨d0, d1, d2⟩ := HC.out _ HBW.out.bel
              obtain ⟨⟨z0, z1, z2⟩, g0, g1, g2⟩ := HBW.out.all
              go_wp2_with fail
              all_goals
                have HBX := Lib.hid (HBW.out.fill d)
                clear z0 z1 z2 g0 g1 g2 a0 a1 a2 d0 d1 d2
                generalize ((v15.setCell ⟨bx, 0, none⟩ (.int .i64 (d.from_ : Nat))).setCell ⟨bx, 1, none⟩ (.int .i64 (d.to_ : Nat))).setCell ⟨bx, 2, none⟩ (.string (bstr d.text)) = w8 at *
                obtain ⟨k0, k1, k2⟩ := HBX.out.cells
                go_still_tail 8, (by kernel_rfl)
                change wpList _ _ _ _ _ w8.drew
                replace HBX := Lib.hid HBX.out.drew
                clear k0 k1 k2
                generalize w8.drew = w9 at *
                obtain ⟨k0, k1, k2⟩ := HBX.out.cells
                go_wp2_with fail
                refine (WriteString_any B4 B4 s (U ++ d.text) _ HBX.out.isb (by rw [List.length_append]; omega) HBX.out.size).mono ?_
                rintro e w10 ⟨rfl, his, hb10, hkeep⟩
                have HBY := Lib.hid (show BW B4 bx d (s ++ (U ++ d.text)) w4 w10 from ⟨hkeep _ _ _ _ HBX.out.ne (by decide) HBX.out.box, his, HBX.out.bel.trans (hb10.mono (Nat.le_refl _)), HBX.out.hi, Nat.le_trans HBX.out.size hb10.size⟩)
                clear k0 k1 k2 hkeep his hb10
                obtain ⟨k0, k1, k2⟩ := HBY.out.cells
                go_wp2_with fail
                go_roundw
                case rel => exact ⟨c :: p, q, d.to_, s ++ (U ++ d.text), _, _, _, _, _, _, rfl, rfl, rfl, Lib.hid (by first | exact HRP.out), Lib.hid (by first | exact HV.out.1 ‹_› | exact HV.out.2), Lib.hid HBY.out.isb, Lib.hid (by rw [← HU.out, ← List.append_assoc]; exact HW.out.right (by rw [Diff.mergeB, if_neg hcd, if_neg ht, if_neg hlt]) (HW.out.cp.from_low (by omega))), HBY.out.bel⟩
                case measure => simp [lenOfS]; omega
end Go.Proofs.Ytmmkbjinkdgdbaa
