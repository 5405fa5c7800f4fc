/- Contract of expr.one, whatever comes next. -/
import Derived.Test.YtlpkebngehmimaaGreatDoorMgTypesMore6
import Derived.Test.YtlpkebngehmimaaGreatDoorMgTypesMore9
import Derived.Test.YtlpkebngehmimaaGreatDoorMgTypesMore10
section
/- Contract of expr.one, whatever comes next. -/
namespace Go.Proofs.YtlpkebngehmimaaGreatDoor
open Go.RowKit
set_option linter.unusedVariables false
set_option linter.unusedSimpArgs false
namespace Rd
open Ex
/-- an expression that lies in memory: each node in a younger block than rb -/
def IsX (w : World) (rb : Nat) : Nat → X → Prop
  | b, .num a n => rb < b ∧ RowAt w b 0 170 [.int .i64 1, .int .i64 (a : Nat), .int .i64 (n : Nat), .string ByteArray.empty, .string ByteArray.empty, .pointer none, .pointer none]
  | b, .name a s => rb < b ∧ RowAt w b 0 170 [.int .i64 2, .int .i64 (a : Nat), .int .i64 0, .string (bstr s), .string ByteArray.empty, .pointer none, .pointer none]
  | b, .bin a op l r => ∃ bl br, rb < b ∧ RowAt w b 0 170 [.int .i64 3, .int .i64 (a : Nat), .int .i64 0, .string ByteArray.empty, .string (bstr op), .pointer (some ⟨bl, 0, none⟩), .pointer (some ⟨br, 0, none⟩)] ∧ IsX w rb bl l ∧ IsX w rb br r
theorem IsX.grown {w w' : World} {rb : Nat} (hg : w.grownBy w' (some rb)) : ∀ (x : X) (b : Nat), IsX w rb b x → IsX w' rb b x
  | .num a n, b, h => ⟨h.1, h.2.of_heap (hg.block b h.2.lt (fun e => by injection e with e; have := h.1; omega))⟩
  | .name a s, b, h => ⟨h.1, h.2.of_heap (hg.block b h.2.lt (fun e => by injection e with e; have := h.1; omega))⟩
  | .bin a op l r, b, h => by
    obtain ⟨bl, br, h1, h2, h3, h4⟩ := h
    exact ⟨bl, br, h1, h2.of_heap (hg.block b h2.lt (fun e => by injection e with e; omega)), IsX.grown hg l bl h3, IsX.grown hg r br h4⟩
/-- the table of ops by level -/
def LevelsAt (w : World) (rb : Nat) : Prop := 3 < rb ∧ ∀ k, k < 3 → ∃ (gk : Addr) (ck : Nat), w.cell? ⟨3, k, none⟩ = some (.slice (some gk) (levels k).length ck) ∧ gk.block < rb ∧ ∀ j, j < (levels k).length → w.cell? (gk.add j) = some (.string (bstr ((levels k).getD j [])))
structure Env (w : World) (rb : Nat) : Prop where
  lv : LevelsAt w rb
  er : ErrType w
  eb : 0 < rb
theorem Env.grown {w w' : World} {rb : Nat} (h : Env w rb) (hg : w.grownBy w' (some rb)) (hrb : rb < w.heap.size) : Env w' rb := by
  have key : ∀ (p : Addr), p.block < rb → w'.cell? p = w.cell? p := fun p hlt => World.cell?_of_block (hg.block p.block (Nat.lt_trans hlt hrb) (fun e => by injection e with e; omega))
  refine ⟨⟨h.lv.1, fun k hk => ?_⟩, (key ⟨_, 0, none⟩ h.eb).trans h.er, h.eb⟩
  obtain ⟨gk, ck, h1, h2, h3⟩ := h.lv.2 k hk
  exact ⟨gk, ck, (key ⟨_, k, none⟩ h.lv.1).trans h1, h2, fun j hj => (key (gk.add j) (by rw [Addr.add_block]; exact h2)).trans (h3 j hj)⟩
/-- how the parser ends -/
def Post (w : World) (rb E : Nat) (o : Ex.Out) (e : Ending) (w' : World) : Prop := match o with
  | .ok x R => ∃ b, e = .returned (.pointer (some ⟨b, 0, none⟩)) ∧ IsX w' rb b x ∧ Rdr w' rb R E ∧ w.grownBy w' (some rb)
  | .bad en p => ∃ g, e = thrown g ∧ RowAt w' g 0 111 [.int .i64 (en : Nat), .int .i64 (p : Nat)] ∧ w.heap.size ≤ g ∧ w.grownBy w' (some rb)
def LevC (rb E k d : Nat) (T : List Tok) (o : Ex.Out) : Prop := ∀ w, Env w rb → Rdr w rb T E → Calls Tryz.prog 104 #[.pointer (some ⟨rb, 0, none⟩), .int .i64 (k : Nat), .int .i64 (d : Nat)] w (Post w rb E o)
def OneC (rb E d : Nat) (T : List Tok) (o : Ex.Out) : Prop := ∀ w, Env w rb → Rdr w rb T E → Calls Tryz.prog 118 #[.pointer (some ⟨rb, 0, none⟩), .int .i64 (d : Nat)] w (Post w rb E o)
def ReadC (rb E d : Nat) (T : List Tok) (o : Ex.Out) : Prop := ∀ w, Env w rb → Rdr w rb T E → Calls Tryz.prog 75 #[.pointer (some ⟨rb, 0, none⟩), .int .i64 (d : Nat)] w (Post w rb E o)
end Rd
open Rd
open Ex (X)
set_option maxRecDepth 100000 in
theorem Read_ok (rb E d : Nat) (T : List Rd.Tok) (x : X) (R : List Rd.Tok) (h : LevC rb E 0 d T (.ok x R)) : ReadC rb E d T (.ok x R) := by
  intro w henv hr
  have H := Lib.hid (h w henv hr)
  clear h henv hr
  go_enter Tryz.func75, Tryz.ntmps75
  go_wp2_with fail
  refine H.out.mono ?_
  rintro e w1 ⟨b, rfl, h1⟩
  go_wp2_with fail
  go_ret
  exact ⟨b, rfl, h1⟩
set_option maxRecDepth 100000 in
theorem Read_bad (rb E d : Nat) (T : List Rd.Tok) (en p : Nat) (h : LevC rb E 0 d T (.bad en p)) : ReadC rb E d T (.bad en p) := by
  intro w henv hr
  have h1 := h w henv hr
  unfold Post thrown at h1 ⊢
  have H := Lib.hid h1
  clear h h1 henv hr
  go_enter Tryz.func75, Tryz.ntmps75
  go_wp2_with fail
  refine H.out.mono ?_
  rintro e w1 ⟨g, rfl, h1⟩
  go_wp2_with fail
  exact ⟨rfl, g, rfl, h1⟩
set_option maxRecDepth 100000 in
set_option maxHeartbeats 1000000 in
theorem one_paren (rb E d : Nat) (t u : Rd.Tok) (T T' : List Rd.Tok) (x : X) (ht : t.1 = [40]) (hd : d < 8) (hC : ReadC rb E (d + 1) T (.ok x (u :: T'))) (hu : u.1 = [41]) : OneC rb E d (t :: T) (.ok x T') := by
  intro w henv hr
  have HA := Lib.hid (At_any rb (t :: T) E w hr)
  have hT := Take_yes rb t T E w hr (by rw [ht]; simp)
  rw [ht] at hT
  have HT := Lib.hid hT
  have HE := Lib.hid henv
  have HL := Lib.hid hr.lt
  have hC2 : ∀ w, Env w rb → Rdr w rb T E → Calls Tryz.prog 75 #[.pointer (some ⟨rb, 0, none⟩), .int .i64 ((d : Int) + 1)] w (Post w rb E (.ok x (u :: T'))) := hC
  have HC := Lib.hid hC2
  have HM : Hid (∀ w, Rdr w rb (u :: T') E → Calls Tryz.prog 25 #[.pointer (some ⟨rb, 0, none⟩), .string (bstr [41])] w fun e w' => e = .returned (.tuple #[]) ∧ Rdr w' rb T' E ∧ w.grownBy w' (some rb)) := Lib.hid fun w h => by
    have := Must_yes rb u T' E w h (by rw [hu]; simp)
    rw [hu] at this
    exact this
  have d1 : ((d : Int) == 8) = false := by rw [beq_eq_false_iff_ne]; omega
  generalize Ex.atOf E (t :: T) = at_ at *
  clear hT hr henv hC hC2 ht hu
  go_enter Tryz.func118, Tryz.ntmps118
  go_wp2_with fail
  refine HA.out.mono ?_
  rintro e w0 ⟨rfl, rfl⟩
  go_wp2_with fail
  refine HT.out.mono ?_
  rintro e w1 ⟨rfl, hr1, hg1⟩
  have HR1 := Lib.hid hr1; have HG1 := Lib.hid hg1
  clear hr1 hg1
  go_wp2_with fail
  refine (HC.out w1 (HE.out.grown HG1.out HL.out) HR1.out).mono ?_
  rintro e w2 ⟨b, rfl, hx2, hr2, hg2⟩
  have HX2 := Lib.hid hx2; have HR2 := Lib.hid hr2; have HG2 := Lib.hid (grownBy_trans HG1.out hg2)
  clear hx2 hr2 hg2
  go_wp2_with fail
  refine (HM.out w2 HR2.out).mono ?_
  rintro e w3 ⟨rfl, hr3, hg3⟩
  have HR3 := Lib.hid hr3; have HG3 := Lib.hid (grownBy_trans HG2.out hg3); have HX3 := Lib.hid (IsX.grown hg3 x b HX2.out)
  clear hr3 hg3
  go_wp2_with fail
  go_ret
  exact ⟨b, rfl, HX3.out, HR3.out, HG3.out⟩
set_option maxRecDepth 100000 in
set_option maxHeartbeats 1000000 in
theorem one_parenNone (rb E d : Nat) (t : Rd.Tok) (T T' : List Rd.Tok) (x : X) (ht : t.1 = [40]) (hd : d < 8) (hC : ReadC rb E (d + 1) T (.ok x T')) (hu : ∀ u T'', T' = u :: T'' → u.1 ≠ [41]) : OneC rb E d (t :: T) (.bad 3 (Ex.atOf E T')) := by
  intro w henv hr
  have HA := Lib.hid (At_any rb (t :: T) E w hr)
  have hT := Take_yes rb t T E w hr (by rw [ht]; simp)
  rw [ht] at hT
  have HT := Lib.hid hT
  have HE := Lib.hid henv
  have HL := Lib.hid hr.lt
  have hC2 : ∀ w, Env w rb → Rdr w rb T E → Calls Tryz.prog 75 #[.pointer (some ⟨rb, 0, none⟩), .int .i64 ((d : Int) + 1)] w (Post w rb E (.ok x T')) := hC
  have HC := Lib.hid hC2
  have hM := fun w h => Must_no rb T' E [41] w h (by simp) (by
    cases T' with
    | nil => simp [textOf]
    | cons u T'' => exact hu u T'' rfl)
  unfold thrown at hM
  have HM := Lib.hid hM
  have d1 : ((d : Int) == 8) = false := by rw [beq_eq_false_iff_ne]; omega
  unfold Post thrown
  generalize Ex.atOf E (t :: T) = at_ at *
  generalize Ex.atOf E T' = at2 at *
  clear hT hr henv hC hC2 hM ht hu
  go_enter Tryz.func118, Tryz.ntmps118
  go_wp2_with fail
  refine HA.out.mono ?_
  rintro e w0 ⟨rfl, rfl⟩
  go_wp2_with fail
  refine HT.out.mono ?_
  rintro e w1 ⟨rfl, hr1, hg1⟩
  have HR1 := Lib.hid hr1; have HG1 := Lib.hid hg1
  clear hr1 hg1
  go_wp2_with fail
  refine (HC.out w1 (HE.out.grown HG1.out HL.out) HR1.out).mono ?_
  rintro e w2 ⟨b, rfl, hx2, hr2, hg2⟩
  have HR2 := Lib.hid hr2; have HG2 := Lib.hid (grownBy_trans HG1.out hg2)
  clear hx2 hr2 hg2
  go_wp2_with fail
  refine (HM.out w2 HR2.out).mono ?_
  rintro e w3 ⟨rfl, hr3, hb3⟩
  have HR3 := Lib.hid hr3; have HG3 := Lib.hid (grownBy_trans HG2.out (below_grown hb3 _))
  clear hr3 hb3
  go_wp2_with fail
  exact ⟨rfl, _, rfl, HR3.out, HG2.out.size, HG3.out⟩
set_option maxRecDepth 100000 in
set_option maxHeartbeats 1000000 in
theorem one_parenBad (rb E d : Nat) (t : Rd.Tok) (T : List Rd.Tok) (en p : Nat) (ht : t.1 = [40]) (hd : d < 8) (hC : ReadC rb E (d + 1) T (.bad en p)) : OneC rb E d (t :: T) (.bad en p) := by
  intro w henv hr
  have HA := Lib.hid (At_any rb (t :: T) E w hr)
  have hT := Take_yes rb t T E w hr (by rw [ht]; simp)
  rw [ht] at hT
  have HT := Lib.hid hT
  have HE := Lib.hid henv
  have HL := Lib.hid hr.lt
  have hC2 : ∀ w, Env w rb → Rdr w rb T E → Calls Tryz.prog 75 #[.pointer (some ⟨rb, 0, none⟩), .int .i64 ((d : Int) + 1)] w (Post w rb E (.bad en p)) := hC
  unfold Post thrown at hC2 ⊢
  have HC := Lib.hid hC2
  have d1 : ((d : Int) == 8) = false := by rw [beq_eq_false_iff_ne]; omega
  generalize Ex.atOf E (t :: T) = at_ at *
  clear hT hr henv hC hC2 ht
  go_enter Tryz.func118, Tryz.ntmps118
  go_wp2_with fail
  refine HA.out.mono ?_
  rintro e w0 ⟨rfl, rfl⟩
  go_wp2_with fail
  refine HT.out.mono ?_
  rintro e w1 ⟨rfl, hr1, hg1⟩
  have HR1 := Lib.hid hr1; have HG1 := Lib.hid hg1
  clear hr1 hg1
  go_wp2_with fail
  refine (HC.out w1 (HE.out.grown HG1.out HL.out) HR1.out).mono ?_
  rintro e w2 ⟨g, rfl, h1, h2, h3⟩
  have H1 := Lib.hid h1; have H2 := Lib.hid (Nat.le_trans HG1.out.size h2); have HG2 := Lib.hid (grownBy_trans HG1.out h3)
  clear h1 h2 h3
  go_wp2_with fail
  exact ⟨rfl, g, rfl, H1.out, H2.out, HG2.out⟩
set_option maxRecDepth 100000 in
set_option maxHeartbeats 1000000 in
theorem one_deep (rb E : Nat) (t : Rd.Tok) (T : List Rd.Tok) (ht : t.1 = [40]) : OneC rb E 8 (t :: T) (.bad 4 t.2) := by
  intro w henv hr
  have HA := Lib.hid (At_any rb (t :: T) E w hr)
  have hT := Take_yes rb t T E w hr (by rw [ht]; simp)
  rw [ht] at hT
  have HT := Lib.hid hT
  have hat : Ex.atOf E (t :: T) = t.2 := rfl
  rw [hat] at HA
  have hF := fun w => Fail_any rb 4 t.2 w
  unfold thrown at hF
  unfold Post thrown
  have HF := Lib.hid hF
  generalize t.2 = at_ at *
  clear hT hr henv ht hF hat
  go_enter Tryz.func118, Tryz.ntmps118
  go_wp2_with fail
  refine HA.out.mono ?_
  rintro e w0 ⟨rfl, rfl⟩
  go_wp2_with fail
  refine HT.out.mono ?_
  rintro e w1 ⟨rfl, hr1, hg1⟩
  have HR1 := Lib.hid hr1; have HG1 := Lib.hid hg1
  clear hr1 hg1
  go_wp2_with fail
  refine (HF.out w1).mono ?_
  rintro e w2 ⟨rfl, h1, h2⟩
  have H1 := Lib.hid h1; have HG2 := Lib.hid (grownBy_trans HG1.out (below_grown h2 _))
  clear h1 h2
  go_wp2_with fail
  exact ⟨rfl, _, rfl, H1.out, HG1.out.size, HG2.out⟩
/-- lex.Name -/
theorem Name_any (c : UInt8) (r : List UInt8) (w : World) : Calls Tryz.prog 46 #[.string (bstr (c :: r))] w fun e w' => e = .returned (.bool (Lex.letter c.toNat)) ∧ w = w' := by
  have HL := Lib.hid (fun w => letter_any c.toNat (UInt8.toNat_lt c) w)
  have s0 : ∀ h : 0 < (bstr (c :: r)).size, ((bstr (c :: r))[0]'h).toNat = c.toNat := fun h => rfl
  have l0 : (bstr (c :: r)).size = r.length + 1 := by rw [bstr_size, List.length_cons]
  have m0 : (bstr (c :: r)).toList.isEmpty = false := by rw [bstr_toList]; rfl
  have hp : (0 : Int) < (r.length : Int) + 1 := by omega
  generalize Lex.letter c.toNat = b at *
  generalize c.toNat = x at *
  generalize bstr (c :: r) = S at *
  go_enter Tryz.func46, Tryz.ntmps46
  go_wp2_with fail
  refine (HL.out _).mono ?_
  rintro e w1 ⟨rfl, rfl⟩
  go_wp2_with fail
  go_ret
  exact ⟨rfl, rfl⟩
end Go.Proofs.YtlpkebngehmimaaGreatDoor
end
