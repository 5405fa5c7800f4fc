/- Contract of expr.one: names, numbers, and what is neither. -/
import Derived.Test.YtlpkebngehmimaaGreatDoorMgTypesMore11
section
/- Contract of expr.one: names, numbers, and what is neither. -/
namespace Go.Proofs.YtlpkebngehmimaaGreatDoor
open Go.RowKit
set_option linter.unusedVariables false
set_option linter.unusedSimpArgs false
open Rd
open Ex (X)
theorem letter_not {c : UInt8} (h : Lex.letter c.toNat = true) : c ≠ 40 := by
  rintro rfl
  exact absurd h (by decide)
theorem digit_not {c : UInt8} (h : Lex.digit c.toNat = true) : c ≠ 40 ∧ Lex.letter c.toNat = false ∧ c.toNat ≠ 45 ∧ 48 ≤ c.toNat ∧ c.toNat ≤ 57 := by
  have h2 : 48 ≤ c.toNat ∧ c.toNat ≤ 57 := of_decide_eq_true h
  refine ⟨fun e => ?_, ?_, by omega, h2.1, h2.2⟩
  · subst e; exact absurd h2 (by decide)
  · unfold Lex.letter
    simp
    omega
theorem first_not {c : UInt8} {r : List UInt8} (h : c ≠ 40) : (c :: r) ≠ [40] := fun e => h (List.cons.inj e).1
set_option maxRecDepth 100000 in
set_option maxHeartbeats 1000000 in
theorem one_name (rb E d : Nat) (t : Rd.Tok) (T : List Rd.Tok) (c : UInt8) (r : List UInt8) (ht : t.1 = c :: r) (hl : Lex.letter c.toNat = true) (h12 : t.1.length ≤ 12) : OneC rb E d (t :: T) (.ok (.name t.2 t.1) T) := by
  intro w henv hr
  have HA := Lib.hid (At_any rb (t :: T) E w hr)
  have HT := Lib.hid (Take_no rb (t :: T) E [40] w hr (by simp) (by show t.1 ≠ [40]; rw [ht]; exact first_not (letter_not hl)))
  have HX := Lib.hid (Text_any rb (t :: T) E w hr)
  have HP := Lib.hid (Pass_any rb t T E w hr (by rw [ht]; simp))
  have hat : Ex.atOf E (t :: T) = t.2 := rfl
  have htx : textOf (t :: T) = t.1 := rfl
  rw [hat] at HA
  rw [htx] at HX
  have HL := Lib.hid hr.lt
  have hnm := fun w => Name_any c r w
  rw [hl, ← ht] at hnm
  have HN := Lib.hid hnm
  have d12 : decide ((12 : Int) < (t.1.length : Int)) = false := decide_eq_false (by omega)
  have d12n : decide (12 < t.1.length) = false := decide_eq_false (by omega)
  generalize t.2 = at_ at *
  generalize t.1 = s at *
  clear hr henv ht hat htx hnm hl
  go_enter Tryz.func118, Tryz.ntmps118
  go_wp2_with fail
  refine HA.out.mono ?_
  rintro e w0 ⟨rfl, rfl⟩
  go_wp2_with fail
  refine HT.out.mono ?_
  rintro e w0 ⟨rfl, rfl⟩
  go_wp2_with fail
  refine HX.out.mono ?_
  rintro e w0 ⟨rfl, rfl⟩
  go_wp2_with fail
  refine (HN.out _).mono ?_
  rintro e w1 ⟨rfl, rfl⟩
  go_wp2_with fail
  refine HP.out.mono ?_
  rintro e w1 ⟨rfl, hr1, hg1⟩
  have hrow := RowAt.new w1 170 #[.int .i64 2, .int .i64 (at_ : Nat), .int .i64 0, .string (bstr s), .string ByteArray.empty, .pointer none, .pointer none]
  have hb := (Below.refl w1.heap.size w1).alloc (Nat.le_refl _) (.cells #[.int .i64 2, .int .i64 (at_ : Nat), .int .i64 0, .string (bstr s), .string ByteArray.empty, .pointer none, .pointer none] 170)
  have HF : Hid (IsX (w1.alloc (.cells #[.int .i64 2, .int .i64 (at_ : Nat), .int .i64 0, .string (bstr s), .string ByteArray.empty, .pointer none, .pointer none] 170)) rb w1.heap.size (.name at_ s) ∧ Rdr (w1.alloc (.cells #[.int .i64 2, .int .i64 (at_ : Nat), .int .i64 0, .string (bstr s), .string ByteArray.empty, .pointer none, .pointer none] 170)) rb T E ∧ w0.grownBy (w1.alloc (.cells #[.int .i64 2, .int .i64 (at_ : Nat), .int .i64 0, .string (bstr s), .string ByteArray.empty, .pointer none, .pointer none] 170)) (some rb)) :=
    Lib.hid ⟨⟨Nat.lt_of_lt_of_le HL.out hg1.size, hrow⟩, hr1.below hb, grownBy_trans hg1 (below_grown hb _)⟩
  clear hr1 hg1 hrow hb
  go_wp2_with fail
  go_ret
  exact ⟨_, rfl, HF.out⟩
set_option maxRecDepth 100000 in
set_option maxHeartbeats 1000000 in
theorem one_nameLong (rb E d : Nat) (t : Rd.Tok) (T : List Rd.Tok) (c : UInt8) (r : List UInt8) (ht : t.1 = c :: r) (hl : Lex.letter c.toNat = true) (h12 : 12 < t.1.length) : OneC rb E d (t :: T) (.bad 4 t.2) := by
  intro w henv hr
  have HA := Lib.hid (At_any rb (t :: T) E w hr)
  have HT := Lib.hid (Take_no rb (t :: T) E [40] w hr (by simp) (by show t.1 ≠ [40]; rw [ht]; exact first_not (letter_not hl)))
  have HX := Lib.hid (Text_any rb (t :: T) E w hr)
  have HP := Lib.hid (Pass_any rb t T E w hr (by rw [ht]; simp))
  have hat : Ex.atOf E (t :: T) = t.2 := rfl
  have htx : textOf (t :: T) = t.1 := rfl
  rw [hat] at HA
  rw [htx] at HX
  have hnm := fun w => Name_any c r w
  rw [hl, ← ht] at hnm
  have HN := Lib.hid hnm
  have hF := fun w => Fail_any rb 4 t.2 w
  unfold thrown at hF
  unfold Post thrown
  have HF := Lib.hid hF
  have d12 : decide ((12 : Int) < (t.1.length : Int)) = true := decide_eq_true (by omega)
  have d12n : decide (12 < t.1.length) = true := decide_eq_true (by omega)
  generalize t.2 = at_ at *
  generalize t.1 = s at *
  clear hr henv ht hat htx hnm hl hF h12
  go_enter Tryz.func118, Tryz.ntmps118
  go_wp2_with fail
  refine HA.out.mono ?_
  rintro e w0 ⟨rfl, rfl⟩
  go_wp2_with fail
  refine HT.out.mono ?_
  rintro e w0 ⟨rfl, rfl⟩
  go_wp2_with fail
  refine HX.out.mono ?_
  rintro e w0 ⟨rfl, rfl⟩
  go_wp2_with fail
  refine (HN.out _).mono ?_
  rintro e w1 ⟨rfl, rfl⟩
  go_wp2_with fail
  refine HP.out.mono ?_
  rintro e w1 ⟨rfl, hr1, hg1⟩
  have HG1 := Lib.hid hg1
  clear hr1 hg1
  go_wp2_with fail
  refine (HF.out _).mono ?_
  rintro e w2 ⟨rfl, h1, h2⟩
  have H1 := Lib.hid h1; have HG2 := Lib.hid (grownBy_trans HG1.out (below_grown h2 (some rb)))
  clear h1 h2
  go_wp2_with fail
  exact ⟨rfl, _, rfl, H1.out, HG1.out.size, HG2.out⟩
theorem Name_nil (w : World) : Calls Tryz.prog 46 #[.string (bstr [])] w fun e w' => e = .returned (.bool false) ∧ w = w' := by
  go_enter Tryz.func46, Tryz.ntmps46
  go_wp2_with fail
  go_ret
  exact ⟨rfl, rfl⟩
set_option maxRecDepth 100000 in
set_option maxHeartbeats 1000000 in
theorem one_none (rb E d : Nat) : OneC rb E d [] (.bad 3 E) := by
  intro w henv hr
  have HA := Lib.hid (At_any rb [] E w hr)
  have HT := Lib.hid (Take_no rb [] E [40] w hr (by simp) (by simp [textOf]))
  have HX := Lib.hid (Text_any rb [] E w hr)
  have hat : Ex.atOf E [] = E := rfl
  have htx : textOf [] = [] := rfl
  rw [hat] at HA
  rw [htx] at HX
  have HN := Lib.hid (fun w => Name_nil w)
  have hF := fun w => Fail_any rb 3 E w
  unfold thrown at hF
  unfold Post thrown
  have HF := Lib.hid hF
  clear hr henv hat htx hF
  go_enter Tryz.func118, Tryz.ntmps118
  go_wp2_with fail
  refine HA.out.mono ?_
  rintro e w0 ⟨rfl, rfl⟩
  go_wp2_with fail
  refine HT.out.mono ?_
  rintro e w0 ⟨rfl, rfl⟩
  go_wp2_with fail
  refine HX.out.mono ?_
  rintro e w0 ⟨rfl, rfl⟩
  go_wp2_with fail
  refine (HN.out _).mono ?_
  rintro e w1 ⟨rfl, rfl⟩
  go_wp2_with fail
  refine (HF.out _).mono ?_
  rintro e w2 ⟨rfl, h1, h2⟩
  have H1 := Lib.hid h1; have HG2 := Lib.hid (below_grown h2 (some rb))
  clear h1 h2
  go_wp2_with fail
  exact ⟨rfl, _, rfl, H1.out, Nat.le_refl _, HG2.out⟩
set_option maxRecDepth 100000 in
set_option maxHeartbeats 1000000 in
theorem one_mark (rb E d : Nat) (t : Rd.Tok) (T : List Rd.Tok) (c : UInt8) (r : List UInt8) (ht : t.1 = c :: r) (hl : Lex.letter c.toNat = false) (hd : Lex.digit c.toNat = false) (h40 : t.1 ≠ [40]) : OneC rb E d (t :: T) (.bad 3 t.2) := by
  intro w henv hr
  have HA := Lib.hid (At_any rb (t :: T) E w hr)
  have HT := Lib.hid (Take_no rb (t :: T) E [40] w hr (by simp) h40)
  have HX := Lib.hid (Text_any rb (t :: T) E w hr)
  have hat : Ex.atOf E (t :: T) = t.2 := rfl
  have htx : textOf (t :: T) = t.1 := rfl
  rw [hat] at HA
  rw [htx, ht] at HX
  have hnm := fun w => Name_any c r w
  rw [hl] at hnm
  have HN := Lib.hid hnm
  have hF := fun w => Fail_any rb 3 t.2 w
  unfold thrown at hF
  unfold Post thrown
  have HF := Lib.hid hF
  have hemp : ((c :: r) == ([] : List UInt8)) = false := rfl
  have hemp2 : (c :: r).isEmpty = false := rfl
  have s0 : ∀ h : 0 < (bstr (c :: r)).size, ((bstr (c :: r))[0]'h).toNat = c.toNat := fun h => rfl
  have l0 : (bstr (c :: r)).size = r.length + 1 := by rw [bstr_size, List.length_cons]
  have m0 : (bstr (c :: r)).toList.isEmpty = false := by rw [bstr_toList]; rfl
  have hp : (0 : Int) < (r.length : Int) + 1 := by omega
  have hnd : ¬ (48 ≤ c.toNat ∧ c.toNat ≤ 57) := of_decide_eq_false hd
  generalize t.2 = at_ at *
  generalize c.toNat = x at *
  generalize bstr (c :: r) = S at *
  clear hr henv ht hat htx hnm hl hF hd h40
  by_cases h48 : x < 48
  · have e1 : decide ((x : Int) < 48) = true := decide_eq_true (by omega)
    clear hnd
    go_enter Tryz.func118, Tryz.ntmps118
    go_wp2_with fail
    refine HA.out.mono ?_
    rintro e w0 ⟨rfl, rfl⟩
    go_wp2_with fail
    refine HT.out.mono ?_
    rintro e w0 ⟨rfl, rfl⟩
    go_wp2_with fail
    refine HX.out.mono ?_
    rintro e w0 ⟨rfl, rfl⟩
    go_wp2_with fail
    refine (HN.out _).mono ?_
    rintro e w1 ⟨rfl, rfl⟩
    go_wp2_with fail
    refine (HF.out _).mono ?_
    rintro e w2 ⟨rfl, h1, h2⟩
    have H1 := Lib.hid h1; have HG2 := Lib.hid (below_grown h2 (some rb))
    clear h1 h2
    go_wp2_with fail
    exact ⟨rfl, _, rfl, H1.out, Nat.le_refl _, HG2.out⟩
  · have e1 : decide ((x : Int) < 48) = false := decide_eq_false (by omega)
    have e2 : decide ((57 : Int) < (x : Int)) = true := decide_eq_true (by omega)
    clear hnd
    go_enter Tryz.func118, Tryz.ntmps118
    go_wp2_with fail
    refine HA.out.mono ?_
    rintro e w0 ⟨rfl, rfl⟩
    go_wp2_with fail
    refine HT.out.mono ?_
    rintro e w0 ⟨rfl, rfl⟩
    go_wp2_with fail
    refine HX.out.mono ?_
    rintro e w0 ⟨rfl, rfl⟩
    go_wp2_with fail
    refine (HN.out _).mono ?_
    rintro e w1 ⟨rfl, rfl⟩
    go_wp2_with fail
    refine (HF.out _).mono ?_
    rintro e w2 ⟨rfl, h1, h2⟩
    have H1 := Lib.hid h1; have HG2 := Lib.hid (below_grown h2 (some rb))
    clear h1 h2
    go_wp2_with fail
    exact ⟨rfl, _, rfl, H1.out, Nat.le_refl _, HG2.out⟩
set_option maxRecDepth 100000 in
set_option maxHeartbeats 1000000 in
theorem one_num (rb E d : Nat) (t : Rd.Tok) (T : List Rd.Tok) (c : UInt8) (r : List UInt8) (n : Nat) (ht : t.1 = c :: r) (hd : Lex.digit c.toNat = true) (hnum : Num.numOf t.1 = .inl n) (hlen : t.1.length ≤ 100000) : OneC rb E d (t :: T) (.ok (.num t.2 n) T) := by
  intro w henv hr
  obtain ⟨n40, nl, n45, n48, n57⟩ := digit_not hd
  have HA := Lib.hid (At_any rb (t :: T) E w hr)
  have HT := Lib.hid (Take_no rb (t :: T) E [40] w hr (by simp) (by show t.1 ≠ [40]; rw [ht]; exact first_not n40))
  have HX := Lib.hid (Text_any rb (t :: T) E w hr)
  have HP := Lib.hid (Pass_any rb t T E w hr (by rw [ht]; simp))
  have hat : Ex.atOf E (t :: T) = t.2 := rfl
  have htx : textOf (t :: T) = t.1 := rfl
  rw [hat] at HA
  rw [htx, ht] at HX
  rw [ht] at HP
  have hnm := fun w => Name_any c r w
  rw [nl] at hnm
  have HN := Lib.hid hnm
  have HL := Lib.hid hr.lt
  have hnb := fun w => Number_any (c :: r) w (by rw [ht] at hlen; exact hlen) (by simp) (by simpa using n45)
  rw [← ht, hnum, ht] at hnb
  simp only [Num.numbered] at hnb
  have HNB := Lib.hid hnb
  have hemp : ((c :: r) == ([] : List UInt8)) = false := rfl
  have hemp2 : (c :: r).isEmpty = false := rfl
  have s0 : ∀ h : 0 < (bstr (c :: r)).size, ((bstr (c :: r))[0]'h).toNat = c.toNat := fun h => rfl
  have l0 : (bstr (c :: r)).size = r.length + 1 := by rw [bstr_size, List.length_cons]
  have m0 : (bstr (c :: r)).toList.isEmpty = false := by rw [bstr_toList]; rfl
  have hp : (0 : Int) < (r.length : Int) + 1 := by omega
  have e1 : decide ((c.toNat : Int) < 48) = false := decide_eq_false (by omega)
  have e2 : decide ((57 : Int) < (c.toNat : Int)) = false := decide_eq_false (by omega)
  generalize t.2 = at_ at *
  generalize c.toNat = x at *
  generalize bstr (c :: r) = S at *
  clear hr henv hat htx hnm hd n40 nl n45 n48 n57 hnb hnum hlen ht
  go_enter Tryz.func118, Tryz.ntmps118
  go_wp2_with fail
  refine HA.out.mono ?_
  rintro e w0 ⟨rfl, rfl⟩
  go_wp2_with fail
  refine HT.out.mono ?_
  rintro e w0 ⟨rfl, rfl⟩
  go_wp2_with fail
  refine HX.out.mono ?_
  rintro e w0 ⟨rfl, rfl⟩
  go_wp2_with fail
  refine (HN.out _).mono ?_
  rintro e w1 ⟨rfl, rfl⟩
  go_wp2_with fail
  refine HP.out.mono ?_
  rintro e w1 ⟨rfl, hr1, hg1⟩
  have HR1 := Lib.hid hr1; have HG1 := Lib.hid hg1
  clear hr1 hg1
  go_wp2_with fail
  refine (HNB.out _).mono ?_
  rintro e w2 ⟨rfl, hb2⟩
  have hr2 := HR1.out.below hb2
  have hg2 := grownBy_trans HG1.out (below_grown hb2 (some rb))
  have hrow := RowAt.new w2 170 #[.int .i64 1, .int .i64 (at_ : Nat), .int .i64 (n : Nat), .string ByteArray.empty, .string ByteArray.empty, .pointer none, .pointer none]
  have hb := (Below.refl w2.heap.size w2).alloc (Nat.le_refl _) (.cells #[.int .i64 1, .int .i64 (at_ : Nat), .int .i64 (n : Nat), .string ByteArray.empty, .string ByteArray.empty, .pointer none, .pointer none] 170)
  have HF : Hid (IsX (w2.alloc (.cells #[.int .i64 1, .int .i64 (at_ : Nat), .int .i64 (n : Nat), .string ByteArray.empty, .string ByteArray.empty, .pointer none, .pointer none] 170)) rb w2.heap.size (.num at_ n) ∧ Rdr (w2.alloc (.cells #[.int .i64 1, .int .i64 (at_ : Nat), .int .i64 (n : Nat), .string ByteArray.empty, .string ByteArray.empty, .pointer none, .pointer none] 170)) rb T E ∧ w0.grownBy (w2.alloc (.cells #[.int .i64 1, .int .i64 (at_ : Nat), .int .i64 (n : Nat), .string ByteArray.empty, .string ByteArray.empty, .pointer none, .pointer none] 170)) (some rb)) :=
    Lib.hid ⟨⟨Nat.lt_of_lt_of_le HL.out hg2.size, hrow⟩, hr2.below hb, grownBy_trans hg2 (below_grown hb _)⟩
  clear hr2 hg2 hrow hb hb2
  go_wp2_with fail
  go_ret
  exact ⟨_, rfl, HF.out⟩
set_option maxRecDepth 100000 in
set_option maxHeartbeats 1000000 in
theorem one_numBad (rb E d : Nat) (t : Rd.Tok) (T : List Rd.Tok) (c : UInt8) (r : List UInt8) (en : Nat) (ht : t.1 = c :: r) (hd : Lex.digit c.toNat = true) (hnum : Num.numOf t.1 = .inr en) (hlen : t.1.length ≤ 100000) : OneC rb E d (t :: T) (.bad en t.2) := by
  intro w henv hr
  obtain ⟨n40, nl, n45, n48, n57⟩ := digit_not hd
  have HA := Lib.hid (At_any rb (t :: T) E w hr)
  have HT := Lib.hid (Take_no rb (t :: T) E [40] w hr (by simp) (by show t.1 ≠ [40]; rw [ht]; exact first_not n40))
  have HX := Lib.hid (Text_any rb (t :: T) E w hr)
  have HP := Lib.hid (Pass_any rb t T E w hr (by rw [ht]; simp))
  have hat : Ex.atOf E (t :: T) = t.2 := rfl
  have htx : textOf (t :: T) = t.1 := rfl
  rw [hat] at HA
  rw [htx, ht] at HX
  rw [ht] at HP
  have hnm := fun w => Name_any c r w
  rw [nl] at hnm
  have HN := Lib.hid hnm
  have HL := Lib.hid hr.lt
  have hnb := fun w => Number_any (c :: r) w (by rw [ht] at hlen; exact hlen) (by simp) (by simpa using n45)
  rw [← ht, hnum, ht] at hnb
  simp only [Num.numbered] at hnb
  have HNB := Lib.hid hnb
  have hemp : ((c :: r) == ([] : List UInt8)) = false := rfl
  have hemp2 : (c :: r).isEmpty = false := rfl
  have s0 : ∀ h : 0 < (bstr (c :: r)).size, ((bstr (c :: r))[0]'h).toNat = c.toNat := fun h => rfl
  have l0 : (bstr (c :: r)).size = r.length + 1 := by rw [bstr_size, List.length_cons]
  have m0 : (bstr (c :: r)).toList.isEmpty = false := by rw [bstr_toList]; rfl
  have hp : (0 : Int) < (r.length : Int) + 1 := by omega
  have e1 : decide ((c.toNat : Int) < 48) = false := decide_eq_false (by omega)
  have e2 : decide ((57 : Int) < (c.toNat : Int)) = false := decide_eq_false (by omega)
  have hF := fun w => Fail_any rb en t.2 w
  unfold thrown at hF
  unfold Post thrown
  have HF := Lib.hid hF
  have HE := Lib.hid henv
  have HTL := Lib.hid (fun w hg => Tell_errno (en : Int) w hg)
  generalize t.2 = at_ at *
  generalize c.toNat = x at *
  generalize bstr (c :: r) = S at *
  clear hr henv hat htx hnm hd n40 nl n45 n48 n57 hnb hnum hlen ht hF
  go_enter Tryz.func118, Tryz.ntmps118
  go_wp2_with fail
  refine HA.out.mono ?_
  rintro e w0 ⟨rfl, rfl⟩
  go_wp2_with fail
  refine HT.out.mono ?_
  rintro e w0 ⟨rfl, rfl⟩
  go_wp2_with fail
  refine HX.out.mono ?_
  rintro e w0 ⟨rfl, rfl⟩
  go_wp2_with fail
  refine (HN.out _).mono ?_
  rintro e w1 ⟨rfl, rfl⟩
  go_wp2_with fail
  refine HP.out.mono ?_
  rintro e w1 ⟨rfl, hr1, hg1⟩
  have HR1 := Lib.hid hr1; have HG1 := Lib.hid hg1
  clear hr1 hg1
  go_wp2_with fail
  refine (HNB.out _).mono ?_
  rintro e w2 ⟨rfl, hb2⟩
  have HG2 := Lib.hid (grownBy_trans HG1.out (below_grown hb2 (some rb)))
  clear hb2
  go_wp2_with fail
  refine (HTL.out _ (HE.out.grown HG2.out HL.out).er).mono ?_
  rintro e w3 ⟨rfl, hb3⟩
  have HG3 := Lib.hid (grownBy_trans HG2.out (below_grown hb3 (some rb)))
  clear hb3
  go_wp2_with fail
  refine (HF.out _).mono ?_
  rintro e w4 ⟨rfl, h1, h2⟩
  have H1 := Lib.hid h1; have HG4 := Lib.hid (grownBy_trans HG3.out (below_grown h2 (some rb)))
  clear h1 h2
  go_wp2_with fail
  exact ⟨rfl, _, rfl, H1.out, HG3.out.size, HG4.out⟩
end Go.Proofs.YtlpkebngehmimaaGreatDoor
end
