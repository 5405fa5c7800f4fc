/- Contract of expr.Parse. -/
import Derived.Test.YtnmbakibiaedhaaDoorReadE
namespace Go.Proofs.YtnmbakibiaedhaaDoor
open Go.RowKit
set_option linter.unusedVariables false
set_option linter.unusedSimpArgs false
open Rd
open Ex (X)
namespace Rd
/-- what a text is read as: an expression, or an error -/
inductive Reads (s : List UInt8) : X ⊕ Nat → Prop where
  | long : 3000 < s.length → Reads s (.inr 4)
  | ok {T x} : s.length ≤ 3000 → Lex.lexA s 0 = some T → Ex.Par Num.numOf s.length (.lev 0) 0 T (.ok x []) → Reads s (.inl x)
  | more {T x u R} : s.length ≤ 3000 → Lex.lexA s 0 = some T → Ex.Par Num.numOf s.length (.lev 0) 0 T (.ok x (u :: R)) → Reads s (.inr 3)
  | bad {T e p} : s.length ≤ 3000 → Lex.lexA s 0 = some T → Ex.Par Num.numOf s.length (.lev 0) 0 T (.bad e p) → Reads s (.inr e)
/-- an error, of number n -/
def ErrIs (w : World) (v : Value) (n : Nat) : Prop := v = .iface 31 (.int .i64 (n : Nat)) ∨ ∃ g p, v = .iface 88 (.pointer (some ⟨g, 0, none⟩)) ∧ RowAt w g 0 90 [.int .i64 (n : Nat), .int .i64 (p : Nat)]
end Rd
set_option maxRecDepth 100000 in
set_option maxHeartbeats 1000000 in
theorem Parse_long (s : List UInt8) (w : World) (hs : 3000 < s.length) (hs2 : s.length ≤ 1000000) :
    Calls Tryd.prog 12 #[.string (bstr s)] w fun e w' => e = .returned (.tuple #[.pointer none, .iface 31 (.int .i64 4)]) ∧ Below w.heap.size w w' := by
  have HL := Lib.hid (fun w => LexRead_long s w hs hs2)
  clear hs hs2
  go_enter_defers Tryd.func12, Tryd.ntmps12
  go_wp2_with fail
  refine (HL.out _).mono ?_
  rintro e w1 ⟨rfl, rfl⟩
  go_wp2_with fail
  go_region
  all_goals
    go_wp2_with fail
    simp [bodyPostD, Leaves, settle, results, Tryd.results12, go_sem]
    exact ((Below.refl _ w).alloc (Nat.le_refl _) _).drew
set_option maxRecDepth 100000 in
set_option maxHeartbeats 1000000 in
theorem Parse_lexbad (s : List UInt8) (w : World) (hs : s.length ≤ 3000) (hm : MarksAt w) (hn : Lex.lexA s 0 = none) :
    Calls Tryd.prog 12 #[.string (bstr s)] w fun e w' => (∃ g, e = .returned (.tuple #[.pointer none, .iface 88 (.pointer (some ⟨g, 0, none⟩))])) ∧ Below w.heap.size w w' := by
  have HL := Lib.hid (LexRead_bad s (w.alloc (.cells #[.nilIface] 27)) hs (hm.below ((Below.refl _ w).alloc (Nat.le_refl _) _) (Nat.le_refl _)) hn)
  clear hs hm hn
  go_enter_defers Tryd.func12, Tryd.ntmps12
  go_wp2_with fail
  refine HL.out.mono ?_
  rintro e w1 ⟨⟨g, rfl⟩, hb⟩
  have hbox : w1.cell? ⟨w.heap.size, 0, none⟩ = some .nilIface := (hb.cell (p := ⟨w.heap.size, 0, none⟩) (by simp)).trans (by simp)
  have hfz : w1.frozen? ⟨w.heap.size, 0, none⟩ = false := (hb.frozen (p := ⟨w.heap.size, 0, none⟩) (by simp)).trans (by simp)
  have hbb : Below w.heap.size w w1 := ((Below.refl _ w).alloc (Nat.le_refl _) _).trans (hb.mono (by simp))
  have HB := Lib.hid hbb
  have hc1 : (w1.setCell ⟨w.heap.size, 0, none⟩ (.iface 88 (.pointer (some ⟨g, 0, none⟩)))).cell? ⟨w.heap.size, 0, none⟩ = some (.iface 88 (.pointer (some ⟨g, 0, none⟩))) := World.cell?_setCell_same' _ _ _ (by rw [hbox]; rfl)
  have hc2 : ((w1.setCell ⟨w.heap.size, 0, none⟩ (.iface 88 (.pointer (some ⟨g, 0, none⟩)))).setCell ⟨w.heap.size, 0, none⟩ (.iface 88 (.pointer (some ⟨g, 0, none⟩)))).cell? ⟨w.heap.size, 0, none⟩ = some (.iface 88 (.pointer (some ⟨g, 0, none⟩))) := World.cell?_setCell_same' _ _ _ (by rw [hc1]; rfl)
  clear hb hbb
  go_wp2_with fail
  go_region
  all_goals
    go_wp2_with fail
    simp [bodyPostD, Leaves, settle, results, Tryd.results12, go_sem, hc2]
    exact ((HB.out.setCell (p := ⟨w.heap.size, 0, none⟩) (Nat.le_refl _) _).setCell (p := ⟨w.heap.size, 0, none⟩) (Nat.le_refl _) _).drew
theorem IsX.mono {w : World} {rb rb' : Nat} (h : rb' ≤ rb) : ∀ (x : X) (b : Nat), IsX w rb b x → IsX w rb' b x
  | .num a n, b, hx => ⟨Nat.lt_of_le_of_lt h hx.1, hx.2⟩
  | .name a s, b, hx => ⟨Nat.lt_of_le_of_lt h hx.1, hx.2⟩
  | .bin a op l r, b, hx => by
    obtain ⟨bl, br, h1, h2, h3, h4⟩ := hx
    exact ⟨bl, br, Nat.lt_of_le_of_lt h h1, h2, IsX.mono h l bl h3, IsX.mono h r br h4⟩
/-- behind lex.Read, the error's box stored again -/
structure PS (w w2 : World) (rb : Nat) (T : List Rd.Tok) (E : Nat) : Prop where
  rd : Rdr w2 rb T E
  env : Env w2 rb
  box : RowAt w2 w.heap.size 0 27 [.nilIface]
  lt : w.heap.size < rb
  bel : Below w.heap.size w w2
theorem PS.mk' {w w1 : World} {rb : Nat} {T : List Rd.Tok} {E : Nat} (he : Env w w.heap.size) (hr : ∀ W : World, (∀ k, (w.alloc (.cells #[.nilIface] 27)).heap.size ≤ k → k < w1.heap.size → W.heap[k]? = w1.heap[k]?) → Rdr W rb T E) (h1 : (w.alloc (.cells #[.nilIface] 27)).heap.size ≤ rb) (hb : Below (w.alloc (.cells #[.nilIface] 27)).heap.size (w.alloc (.cells #[.nilIface] 27)) w1) :
    PS w (w1.setCell ⟨w.heap.size, 0, none⟩ .nilIface) rb T E := by
  have hbox := (RowAt.new w 27 #[.nilIface]).below hb (by simp)
  have hbb : Below w.heap.size w w1 := ((Below.refl _ w).alloc (Nat.le_refl _) _).trans (hb.mono (by simp))
  have hset := Below.setCell (p := ⟨w.heap.size, 0, none⟩) hbb (Nat.le_refl _) .nilIface
  simp only [World.size_alloc] at h1 hr
  have key : ∀ (p : Addr), p.block < w.heap.size → (w1.setCell ⟨w.heap.size, 0, none⟩ .nilIface).cell? p = w.cell? p := fun p h => hset.cell (p := p) h
  refine ⟨hr _ fun k hk _ => Below.heap_setCell w1 ⟨w.heap.size, 0, none⟩ .nilIface k (by show k ≠ w.heap.size; omega), ⟨⟨by have := he.lv.1; omega, fun k hk => ?_⟩, (key ⟨_, 0, none⟩ he.eb).trans he.er, by have := he.eb; omega⟩, hbox.set0 0 (by simp) .nilIface, by omega, hset⟩
  obtain ⟨gk, ck, e1, e2, e3⟩ := he.lv.2 k hk
  exact ⟨gk, ck, (key ⟨_, k, none⟩ he.lv.1).trans e1, by omega, fun j hj => (key (gk.add j) (by rw [Addr.add_block]; exact e2)).trans (e3 j hj)⟩
set_option maxRecDepth 100000 in
set_option maxHeartbeats 1000000 in
theorem Parse_ok (s : List UInt8) (T : List Rd.Tok) (x : X) (w : World) (hs : s.length ≤ 3000) (hm : MarksAt w) (he : Env w w.heap.size) (hn : Lex.lexA s 0 = some T) (hT : ∀ t ∈ T, t.1.length ≤ 100000) (hp : Ex.Par Num.numOf s.length (.lev 0) 0 T (.ok x [])) :
    Calls Tryd.prog 12 #[.string (bstr s)] w fun e w' => ∃ b, e = .returned (.tuple #[.pointer (some ⟨b, 0, none⟩), .nilIface]) ∧ IsX w' w.heap.size b x ∧ Below w.heap.size w w' := by
  have HL := Lib.hid (LexRead_ok s T (w.alloc (.cells #[.nilIface] 27)) hs (hm.below ((Below.refl _ w).alloc (Nat.le_refl _) _) (Nat.le_refl _)) hn)
  have HP := Lib.hid (fun rb => Read_any hp rb hT)
  have HE := Lib.hid he
  clear hs hm hn hp hT he
  go_enter_defers Tryd.func12, Tryd.ntmps12
  go_wp2_with fail
  refine HL.out.mono ?_
  rintro e w1 ⟨rb, rfl, hr, hrb, hrlt, hb⟩
  have hbox : w1.cell? ⟨w.heap.size, 0, none⟩ = some .nilIface := (hb.cell (p := ⟨w.heap.size, 0, none⟩) (by simp)).trans (by simp)
  have hfz : w1.frozen? ⟨w.heap.size, 0, none⟩ = false := (hb.frozen (p := ⟨w.heap.size, 0, none⟩) (by simp)).trans (by simp)
  have HS : Hid (PS w (w1.setCell ⟨w.heap.size, 0, none⟩ .nilIface) rb T s.length) := Lib.hid (PS.mk' HE.out hr hrb hb)
  have hc0 := HS.out.box.cell0 0 (by simp)
  simp only [List.getElem_cons_zero] at hc0
  clear hr hrb hrlt hb
  obtain ⟨w2, hw2⟩ : ∃ w2, w2 = w1.setCell ⟨w.heap.size, 0, none⟩ .nilIface := ⟨_, rfl⟩
  rw [← hw2] at HS hc0
  go_wp2_with fail
  rw [← hw2]
  clear hw2
  refine (HP.out rb w2 HS.out.env HS.out.rd).mono ?_
  rintro e w3 ⟨b, rfl, hx, hr3, hg3⟩
  have HX := Lib.hid hx; have HG := Lib.hid hg3
  have HT := Lib.hid (Text_any rb [] s.length w3 hr3)
  have hbox3 := HS.out.box.of_heap (hg3.block w.heap.size HS.out.box.lt (fun e => by injection e with e; have := HS.out.lt; omega))
  have hc3 := hbox3.cell0 0 (by simp)
  have hf3 := hbox3.frozen 0 (by simp)
  simp only [List.getElem_cons_zero] at hc3
  have HB3 := Lib.hid (HS.out.bel.grown hg3 HS.out.bel.size (fun k e => by injection e with e; have := HS.out.lt; omega))
  have hc4 : (w3.setCell ⟨w.heap.size, 0, none⟩ .nilIface).cell? ⟨w.heap.size, 0, none⟩ = some .nilIface := World.cell?_setCell_same' _ _ _ (by rw [hc3]; rfl)
  have hx4 : IsX (w3.setCell ⟨w.heap.size, 0, none⟩ .nilIface) w.heap.size b x := (IsX.mono (Nat.le_of_lt HS.out.lt) x b HX.out).grown (grown_set (grown_refl w3 (some w.heap.size)) rfl _)
  have HX4 := Lib.hid hx4
  clear hx hr3 hg3 hbox3 hx4
  go_wp2_with fail
  refine HT.out.mono ?_
  rintro e w4 ⟨rfl, rfl⟩
  go_wp2_with fail
  refine leaves_cons (f := 36) (args := #[.pointer (some ⟨w.heap.size, 0, none⟩)]) (by simp) (by simp [go_sem]) ?_
  refine (catch_idle w.heap.size _).mono ?_
  rintro e u' w5 ⟨rfl, rfl, rfl⟩
  simp [Leaves, settle, results, Tryd.results12, go_sem, hc4]
  exact ⟨HX4.out, HB3.out.setCell (p := ⟨w.heap.size, 0, none⟩) (Nat.le_refl _) _⟩
set_option maxRecDepth 100000 in
set_option maxHeartbeats 1000000 in
theorem Parse_bad (s : List UInt8) (T : List Rd.Tok) (en p : Nat) (w : World) (hs : s.length ≤ 3000) (hm : MarksAt w) (he : Env w w.heap.size) (hn : Lex.lexA s 0 = some T) (hT : ∀ t ∈ T, t.1.length ≤ 100000) (hp : Ex.Par Num.numOf s.length (.lev 0) 0 T (.bad en p)) :
    Calls Tryd.prog 12 #[.string (bstr s)] w fun e w' => ∃ v, e = .returned (.tuple #[.pointer none, v]) ∧ ErrIs w' v en ∧ Below w.heap.size w w' := by
  have HL := Lib.hid (LexRead_ok s T (w.alloc (.cells #[.nilIface] 27)) hs (hm.below ((Below.refl _ w).alloc (Nat.le_refl _) _) (Nat.le_refl _)) hn)
  have hP := fun rb => Read_any hp rb hT
  unfold ReadC Post thrown at hP
  have HP := Lib.hid hP
  have HE := Lib.hid he
  clear hs hm hn hp hT he hP
  go_enter_defers Tryd.func12, Tryd.ntmps12
  go_wp2_with fail
  refine HL.out.mono ?_
  rintro e w1 ⟨rb, rfl, hr, hrb, hrlt, hb⟩
  have hbox : w1.cell? ⟨w.heap.size, 0, none⟩ = some .nilIface := (hb.cell (p := ⟨w.heap.size, 0, none⟩) (by simp)).trans (by simp)
  have hfz : w1.frozen? ⟨w.heap.size, 0, none⟩ = false := (hb.frozen (p := ⟨w.heap.size, 0, none⟩) (by simp)).trans (by simp)
  have HS : Hid (PS w (w1.setCell ⟨w.heap.size, 0, none⟩ .nilIface) rb T s.length) := Lib.hid (PS.mk' HE.out hr hrb hb)
  have hc0 := HS.out.box.cell0 0 (by simp)
  simp only [List.getElem_cons_zero] at hc0
  clear hr hrb hrlt hb
  obtain ⟨w2, hw2⟩ : ∃ w2, w2 = w1.setCell ⟨w.heap.size, 0, none⟩ .nilIface := ⟨_, rfl⟩
  rw [← hw2] at HS hc0
  go_wp2_with fail
  rw [← hw2]
  clear hw2
  refine (HP.out rb w2 HS.out.env HS.out.rd).mono ?_
  rintro e w3 ⟨g, rfl, hrow, hg, hg3⟩
  have hbox3 := HS.out.box.of_heap (hg3.block w.heap.size HS.out.box.lt (fun e => by injection e with e; have := HS.out.lt; omega))
  have hc3 := hbox3.cell0 0 (by simp)
  have hf3 := hbox3.frozen 0 (by simp)
  simp only [List.getElem_cons_zero] at hc3
  have hl3 := hbox3.lt
  have HB3 := Lib.hid (HS.out.bel.grown hg3 HS.out.bel.size (fun k e => by injection e with e; have := HS.out.lt; omega))
  have hgne : w.heap.size < g := by have := HS.out.bel.size; have h2 := HS.out.lt; have h3 := HS.out.rd.lt; omega
  have HROW := Lib.hid hrow; have HGN := Lib.hid hgne
  clear hrow hg hg3 hbox3 hgne
  go_wp2_with fail
  refine leaves_cons (f := 36) (args := #[.pointer (some ⟨w.heap.size, 0, none⟩)]) (by simp) (by simp [go_sem]) ?_
  refine (catch_thrown w.heap.size .nilIface g [] _ hc3 hf3 hl3).mono ?_
  rintro e u' w5 ⟨rfl, rfl, o, rfl⟩
  have hc5 : (w3.setCell ⟨w.heap.size, 0, none⟩ (.iface 88 (.pointer (some ⟨g, 0, none⟩)))).cell? ⟨w.heap.size, 0, none⟩ = some (.iface 88 (.pointer (some ⟨g, 0, none⟩))) := World.cell?_setCell_same' _ _ _ (by rw [hc3]; rfl)
  have hb6 := (Below.refl (w3.setCell ⟨w.heap.size, 0, none⟩ (.iface 88 (.pointer (some ⟨g, 0, none⟩)))).heap.size (w3.setCell ⟨w.heap.size, 0, none⟩ (.iface 88 (.pointer (some ⟨g, 0, none⟩))))).alloc (Nat.le_refl _) o
  have hc6 : ((w3.setCell ⟨w.heap.size, 0, none⟩ (.iface 88 (.pointer (some ⟨g, 0, none⟩)))).alloc o).cell? ⟨w.heap.size, 0, none⟩ = some (.iface 88 (.pointer (some ⟨g, 0, none⟩))) := (hb6.cell (p := ⟨w.heap.size, 0, none⟩) (by simpa using hl3)).trans hc5
  have hrow6 : RowAt ((w3.setCell ⟨w.heap.size, 0, none⟩ (.iface 88 (.pointer (some ⟨g, 0, none⟩)))).alloc o) g 0 90 [.int .i64 (en : Nat), .int .i64 (p : Nat)] := ((HROW.out.far (Nat.ne_of_gt HGN.out) _).alloc _)
  have hbel : Below w.heap.size w ((w3.setCell ⟨w.heap.size, 0, none⟩ (.iface 88 (.pointer (some ⟨g, 0, none⟩)))).alloc o) := (HB3.out.setCell (p := ⟨w.heap.size, 0, none⟩) (Nat.le_refl _) _).alloc (by simpa using HB3.out.size) o
  simp [Leaves, settle, results, Tryd.results12, go_sem, hc6]
  exact ⟨.inr ⟨g, _, rfl, hrow6⟩, hbel⟩
set_option maxRecDepth 100000 in
set_option maxHeartbeats 1000000 in
theorem Parse_more (s : List UInt8) (T : List Rd.Tok) (x : X) (u : Rd.Tok) (R : List Rd.Tok) (w : World) (hs : s.length ≤ 3000) (hm : MarksAt w) (he : Env w w.heap.size) (hu : u.1 ≠ []) (hn : Lex.lexA s 0 = some T) (hT : ∀ t ∈ T, t.1.length ≤ 100000) (hp : Ex.Par Num.numOf s.length (.lev 0) 0 T (.ok x (u :: R))) :
    Calls Tryd.prog 12 #[.string (bstr s)] w fun e w' => ∃ v, e = .returned (.tuple #[.pointer none, v]) ∧ ErrIs w' v 3 ∧ Below w.heap.size w w' := by
  have HL := Lib.hid (LexRead_ok s T (w.alloc (.cells #[.nilIface] 27)) hs (hm.below ((Below.refl _ w).alloc (Nat.le_refl _) _) (Nat.le_refl _)) hn)
  have HP := Lib.hid (fun rb => Read_any hp rb hT)
  have HE := Lib.hid he
  clear hs hm hn hp hT he
  have HU := Lib.hid hu
  go_enter_defers Tryd.func12, Tryd.ntmps12
  go_wp2_with fail
  refine HL.out.mono ?_
  rintro e w1 ⟨rb, rfl, hr, hrb, hrlt, hb⟩
  have hbox : w1.cell? ⟨w.heap.size, 0, none⟩ = some .nilIface := (hb.cell (p := ⟨w.heap.size, 0, none⟩) (by simp)).trans (by simp)
  have hfz : w1.frozen? ⟨w.heap.size, 0, none⟩ = false := (hb.frozen (p := ⟨w.heap.size, 0, none⟩) (by simp)).trans (by simp)
  have HS : Hid (PS w (w1.setCell ⟨w.heap.size, 0, none⟩ .nilIface) rb T s.length) := Lib.hid (PS.mk' HE.out hr hrb hb)
  have hc0 := HS.out.box.cell0 0 (by simp)
  simp only [List.getElem_cons_zero] at hc0
  clear hr hrb hrlt hb
  obtain ⟨w2, hw2⟩ : ∃ w2, w2 = w1.setCell ⟨w.heap.size, 0, none⟩ .nilIface := ⟨_, rfl⟩
  rw [← hw2] at HS hc0
  go_wp2_with fail
  rw [← hw2]
  clear hw2
  refine (HP.out rb w2 HS.out.env HS.out.rd).mono ?_
  rintro e w3 ⟨b, rfl, hx, hr3, hg3⟩
  have HT := Lib.hid (Text_any rb (u :: R) s.length w3 hr3)
  have htx : textOf (u :: R) = u.1 := rfl
  rw [htx] at HT
  have HAT := Lib.hid (At_any rb (u :: R) s.length w3 hr3)
  have hat : Ex.atOf s.length (u :: R) = u.2 := rfl
  rw [hat] at HAT
  have hemp : (u.1 == []) = false := by rw [beq_eq_false_iff_ne]; exact hu
  have hemp2 : u.1.isEmpty = false := by cases h9 : u.1 with | nil => exact absurd h9 hu | cons a b => rfl
  have hF := fun w => Fail_any rb 3 u.2 w
  unfold thrown at hF
  have HF := Lib.hid hF
  generalize u.2 = at_ at *
  generalize u.1 = ut at *
  have HG := Lib.hid hg3
  clear hr3 hx hg3 htx hat hF
  go_wp2_with fail
  refine HT.out.mono ?_
  rintro e w3 ⟨rfl, rfl⟩
  go_wp2_with fail
  refine HAT.out.mono ?_
  rintro e w3 ⟨rfl, rfl⟩
  go_wp2_with fail
  obtain ⟨w8, hw8⟩ : ∃ w8, w8 = w3 := ⟨_, rfl⟩
  refine (HF.out _).mono ?_
  rintro e w3 ⟨rfl, hrow, hb9⟩
  obtain ⟨g, hgq⟩ : ∃ g, g = w8.heap.size := ⟨_, rfl⟩
  rw [← hw8, ← hgq] at hrow
  rw [← hw8] at hb9 HG
  rw [← hw8, ← hgq]
  have hg3 := grownBy_trans HG.out (below_grown hb9 (some rb))
  have hg : w2.heap.size ≤ g := by rw [hgq]; exact HG.out.size
  clear hw8 hb9 HG hgq
  have hbox3 := HS.out.box.of_heap (hg3.block w.heap.size HS.out.box.lt (fun e => by injection e with e; have := HS.out.lt; omega))
  have hc3 := hbox3.cell0 0 (by simp)
  have hf3 := hbox3.frozen 0 (by simp)
  simp only [List.getElem_cons_zero] at hc3
  have hl3 := hbox3.lt
  have HB3 := Lib.hid (HS.out.bel.grown hg3 HS.out.bel.size (fun k e => by injection e with e; have := HS.out.lt; omega))
  have hgne : w.heap.size < g := by have := HS.out.bel.size; have h2 := HS.out.lt; have h3 := HS.out.rd.lt; omega
  have HROW := Lib.hid hrow; have HGN := Lib.hid hgne
  clear hrow hg hg3 hbox3 hgne
  go_wp2_with fail
  refine leaves_cons (f := 36) (args := #[.pointer (some ⟨w.heap.size, 0, none⟩)]) (by simp) (by simp [go_sem]) ?_
  refine (catch_thrown w.heap.size .nilIface g [] _ hc3 hf3 hl3).mono ?_
  rintro e u' w5 ⟨rfl, rfl, o, rfl⟩
  have hc5 : (w3.setCell ⟨w.heap.size, 0, none⟩ (.iface 88 (.pointer (some ⟨g, 0, none⟩)))).cell? ⟨w.heap.size, 0, none⟩ = some (.iface 88 (.pointer (some ⟨g, 0, none⟩))) := World.cell?_setCell_same' _ _ _ (by rw [hc3]; rfl)
  have hb6 := (Below.refl (w3.setCell ⟨w.heap.size, 0, none⟩ (.iface 88 (.pointer (some ⟨g, 0, none⟩)))).heap.size (w3.setCell ⟨w.heap.size, 0, none⟩ (.iface 88 (.pointer (some ⟨g, 0, none⟩))))).alloc (Nat.le_refl _) o
  have hc6 : ((w3.setCell ⟨w.heap.size, 0, none⟩ (.iface 88 (.pointer (some ⟨g, 0, none⟩)))).alloc o).cell? ⟨w.heap.size, 0, none⟩ = some (.iface 88 (.pointer (some ⟨g, 0, none⟩))) := (hb6.cell (p := ⟨w.heap.size, 0, none⟩) (by simpa using hl3)).trans hc5
  have hrow6 : RowAt ((w3.setCell ⟨w.heap.size, 0, none⟩ (.iface 88 (.pointer (some ⟨g, 0, none⟩)))).alloc o) g 0 90 [.int .i64 (3 : Nat), .int .i64 (at_ : Nat)] := ((HROW.out.far (Nat.ne_of_gt HGN.out) _).alloc _)
  have hbel : Below w.heap.size w ((w3.setCell ⟨w.heap.size, 0, none⟩ (.iface 88 (.pointer (some ⟨g, 0, none⟩)))).alloc o) := (HB3.out.setCell (p := ⟨w.heap.size, 0, none⟩) (Nat.le_refl _) _).alloc (by simpa using HB3.out.size) o
  simp [Leaves, settle, results, Tryd.results12, go_sem, hc6]
  exact ⟨.inr ⟨g, _, rfl, hrow6⟩, hbel⟩
end Go.Proofs.YtnmbakibiaedhaaDoor
