/- Contract of expr.level, and of the parser. -/
import Derived.Test.YtlomecfhobehnaaGreatDoorMgLayoutBack6
section
/- Contract of expr.one: names, numbers, and what is neither. -/
namespace Go.Proofs.YtlomecfhobehnaaGreatDoor
open Go.RowKit
set_option linter.unusedVariables false
set_option linter.unusedSimpArgs false
open Rd
open Ex (X)
theorem letter_not {c : UInt8} (h : Lex.letter c.toNat = true) : c ≠ 40 := by
  rintro rfl
  exact absurd h (by decide)
theorem digit_not {c : UInt8} (h : Lex.digit c.toNat = true) : c ≠ 40 ∧ Lex.letter c.toNat = false ∧ c.toNat ≠ 45 ∧ 48 ≤ c.toNat ∧ c.toNat ≤ 57 := by
  have h2 : 48 ≤ c.toNat ∧ c.toNat ≤ 57 := of_decide_eq_true h
  refine ⟨fun e => ?_, ?_, by omega, h2.1, h2.2⟩
  · subst e; exact absurd h2 (by decide)
  · unfold Lex.letter
    simp
    omega
theorem first_not {c : UInt8} {r : List UInt8} (h : c ≠ 40) : (c :: r) ≠ [40] := fun e => h (List.cons.inj e).1
set_option maxRecDepth 100000 in
set_option maxHeartbeats 1000000 in
theorem one_name (rb E d : Nat) (t : Rd.Tok) (T : List Rd.Tok) (c : UInt8) (r : List UInt8) (ht : t.1 = c :: r) (hl : Lex.letter c.toNat = true) (h12 : t.1.length ≤ 12) : OneC rb E d (t :: T) (.ok (.name t.2 t.1) T) := by
  intro w henv hr
  have HA := Lib.hid (At_any rb (t :: T) E w hr)
  have HT := Lib.hid (Take_no rb (t :: T) E [40] w hr (by simp) (by show t.1 ≠ [40]; rw [ht]; exact first_not (letter_not hl)))
  have HX := Lib.hid (Text_any rb (t :: T) E w hr)
  have HP := Lib.hid (Pass_any rb t T E w hr (by rw [ht]; simp))
  have hat : Ex.atOf E (t :: T) = t.2 := rfl
  have htx : textOf (t :: T) = t.1 := rfl
  rw [hat] at HA
  rw [htx] at HX
  have HL := Lib.hid hr.lt
  have hnm := fun w => Name_any c r w
  rw [hl, ← ht] at hnm
  have HN := Lib.hid hnm
  have d12 : decide ((12 : Int) < (t.1.length : Int)) = false := decide_eq_false (by omega)
  have d12n : decide (12 < t.1.length) = false := decide_eq_false (by omega)
  generalize t.2 = at_ at *
  generalize t.1 = s at *
  clear hr henv ht hat htx hnm hl
  go_enter Tryz.func152, Tryz.ntmps152
  go_wp2_with fail
  refine HA.out.mono ?_
  rintro e w0 ⟨rfl, rfl⟩
  go_wp2_with fail
  refine HT.out.mono ?_
  rintro e w0 ⟨rfl, rfl⟩
  go_wp2_with fail
  refine HX.out.mono ?_
  rintro e w0 ⟨rfl, rfl⟩
  go_wp2_with fail
  refine (HN.out _).mono ?_
  rintro e w1 ⟨rfl, rfl⟩
  go_wp2_with fail
  refine HP.out.mono ?_
  rintro e w1 ⟨rfl, hr1, hg1⟩
  have hrow := RowAt.new w1 202 #[.int .i64 2, .int .i64 (at_ : Nat), .int .i64 0, .string (bstr s), .string ByteArray.empty, .pointer none, .pointer none]
  have hb := (Below.refl w1.heap.size w1).alloc (Nat.le_refl _) (.cells #[.int .i64 2, .int .i64 (at_ : Nat), .int .i64 0, .string (bstr s), .string ByteArray.empty, .pointer none, .pointer none] 202)
  have HF : Hid (IsX (w1.alloc (.cells #[.int .i64 2, .int .i64 (at_ : Nat), .int .i64 0, .string (bstr s), .string ByteArray.empty, .pointer none, .pointer none] 202)) rb w1.heap.size (.name at_ s) ∧ Rdr (w1.alloc (.cells #[.int .i64 2, .int .i64 (at_ : Nat), .int .i64 0, .string (bstr s), .string ByteArray.empty, .pointer none, .pointer none] 202)) rb T E ∧ w0.grownBy (w1.alloc (.cells #[.int .i64 2, .int .i64 (at_ : Nat), .int .i64 0, .string (bstr s), .string ByteArray.empty, .pointer none, .pointer none] 202)) (some rb)) :=
    Lib.hid ⟨⟨Nat.lt_of_lt_of_le HL.out hg1.size, hrow⟩, hr1.below hb, grownBy_trans hg1 (below_grown hb _)⟩
  clear hr1 hg1 hrow hb
  go_wp2_with fail
  go_ret
  exact ⟨_, rfl, HF.out⟩
set_option maxRecDepth 100000 in
set_option maxHeartbeats 1000000 in
theorem one_nameLong (rb E d : Nat) (t : Rd.Tok) (T : List Rd.Tok) (c : UInt8) (r : List UInt8) (ht : t.1 = c :: r) (hl : Lex.letter c.toNat = true) (h12 : 12 < t.1.length) : OneC rb E d (t :: T) (.bad 4 t.2) := by
  intro w henv hr
  have HA := Lib.hid (At_any rb (t :: T) E w hr)
  have HT := Lib.hid (Take_no rb (t :: T) E [40] w hr (by simp) (by show t.1 ≠ [40]; rw [ht]; exact first_not (letter_not hl)))
  have HX := Lib.hid (Text_any rb (t :: T) E w hr)
  have HP := Lib.hid (Pass_any rb t T E w hr (by rw [ht]; simp))
  have hat : Ex.atOf E (t :: T) = t.2 := rfl
  have htx : textOf (t :: T) = t.1 := rfl
  rw [hat] at HA
  rw [htx] at HX
  have hnm := fun w => Name_any c r w
  rw [hl, ← ht] at hnm
  have HN := Lib.hid hnm
  have hF := fun w => Fail_any rb 4 t.2 w
  unfold thrown at hF
  unfold Post thrown
  have HF := Lib.hid hF
  have d12 : decide ((12 : Int) < (t.1.length : Int)) = true := decide_eq_true (by omega)
  have d12n : decide (12 < t.1.length) = true := decide_eq_true (by omega)
  generalize t.2 = at_ at *
  generalize t.1 = s at *
  clear hr henv ht hat htx hnm hl hF h12
  go_enter Tryz.func152, Tryz.ntmps152
  go_wp2_with fail
  refine HA.out.mono ?_
  rintro e w0 ⟨rfl, rfl⟩
  go_wp2_with fail
  refine HT.out.mono ?_
  rintro e w0 ⟨rfl, rfl⟩
  go_wp2_with fail
  refine HX.out.mono ?_
  rintro e w0 ⟨rfl, rfl⟩
  go_wp2_with fail
  refine (HN.out _).mono ?_
  rintro e w1 ⟨rfl, rfl⟩
  go_wp2_with fail
  refine HP.out.mono ?_
  rintro e w1 ⟨rfl, hr1, hg1⟩
  have HG1 := Lib.hid hg1
  clear hr1 hg1
  go_wp2_with fail
  refine (HF.out _).mono ?_
  rintro e w2 ⟨rfl, h1, h2⟩
  have H1 := Lib.hid h1; have HG2 := Lib.hid (grownBy_trans HG1.out (below_grown h2 (some rb)))
  clear h1 h2
  go_wp2_with fail
  exact ⟨rfl, _, rfl, H1.out, HG1.out.size, HG2.out⟩
theorem Name_nil (w : World) : Calls Tryz.prog 86 #[.string (bstr [])] w fun e w' => e = .returned (.bool false) ∧ w = w' := by
  go_enter Tryz.func86, Tryz.ntmps86
  go_wp2_with fail
  go_ret
  exact ⟨rfl, rfl⟩
set_option maxRecDepth 100000 in
set_option maxHeartbeats 1000000 in
theorem one_none (rb E d : Nat) : OneC rb E d [] (.bad 3 E) := by
  intro w henv hr
  have HA := Lib.hid (At_any rb [] E w hr)
  have HT := Lib.hid (Take_no rb [] E [40] w hr (by simp) (by simp [textOf]))
  have HX := Lib.hid (Text_any rb [] E w hr)
  have hat : Ex.atOf E [] = E := rfl
  have htx : textOf [] = [] := rfl
  rw [hat] at HA
  rw [htx] at HX
  have HN := Lib.hid (fun w => Name_nil w)
  have hF := fun w => Fail_any rb 3 E w
  unfold thrown at hF
  unfold Post thrown
  have HF := Lib.hid hF
  clear hr henv hat htx hF
  go_enter Tryz.func152, Tryz.ntmps152
  go_wp2_with fail
  refine HA.out.mono ?_
  rintro e w0 ⟨rfl, rfl⟩
  go_wp2_with fail
  refine HT.out.mono ?_
  rintro e w0 ⟨rfl, rfl⟩
  go_wp2_with fail
  refine HX.out.mono ?_
  rintro e w0 ⟨rfl, rfl⟩
  go_wp2_with fail
  refine (HN.out _).mono ?_
  rintro e w1 ⟨rfl, rfl⟩
  go_wp2_with fail
  refine (HF.out _).mono ?_
  rintro e w2 ⟨rfl, h1, h2⟩
  have H1 := Lib.hid h1; have HG2 := Lib.hid (below_grown h2 (some rb))
  clear h1 h2
  go_wp2_with fail
  exact ⟨rfl, _, rfl, H1.out, Nat.le_refl _, HG2.out⟩
set_option maxRecDepth 100000 in
set_option maxHeartbeats 1000000 in
theorem one_mark (rb E d : Nat) (t : Rd.Tok) (T : List Rd.Tok) (c : UInt8) (r : List UInt8) (ht : t.1 = c :: r) (hl : Lex.letter c.toNat = false) (hd : Lex.digit c.toNat = false) (h40 : t.1 ≠ [40]) : OneC rb E d (t :: T) (.bad 3 t.2) := by
  intro w henv hr
  have HA := Lib.hid (At_any rb (t :: T) E w hr)
  have HT := Lib.hid (Take_no rb (t :: T) E [40] w hr (by simp) h40)
  have HX := Lib.hid (Text_any rb (t :: T) E w hr)
  have hat : Ex.atOf E (t :: T) = t.2 := rfl
  have htx : textOf (t :: T) = t.1 := rfl
  rw [hat] at HA
  rw [htx, ht] at HX
  have hnm := fun w => Name_any c r w
  rw [hl] at hnm
  have HN := Lib.hid hnm
  have hF := fun w => Fail_any rb 3 t.2 w
  unfold thrown at hF
  unfold Post thrown
  have HF := Lib.hid hF
  have hemp : ((c :: r) == ([] : List UInt8)) = false := rfl
  have hemp2 : (c :: r).isEmpty = false := rfl
  have s0 : ∀ h : 0 < (bstr (c :: r)).size, ((bstr (c :: r))[0]'h).toNat = c.toNat := fun h => rfl
  have l0 : (bstr (c :: r)).size = r.length + 1 := by rw [bstr_size, List.length_cons]
  have m0 : (bstr (c :: r)).toList.isEmpty = false := by rw [bstr_toList]; rfl
  have hp : (0 : Int) < (r.length : Int) + 1 := by omega
  have hnd : ¬ (48 ≤ c.toNat ∧ c.toNat ≤ 57) := of_decide_eq_false hd
  generalize t.2 = at_ at *
  generalize c.toNat = x at *
  generalize bstr (c :: r) = S at *
  clear hr henv ht hat htx hnm hl hF hd h40
  by_cases h48 : x < 48
  · have e1 : decide ((x : Int) < 48) = true := decide_eq_true (by omega)
    clear hnd
    go_enter Tryz.func152, Tryz.ntmps152
    go_wp2_with fail
    refine HA.out.mono ?_
    rintro e w0 ⟨rfl, rfl⟩
    go_wp2_with fail
    refine HT.out.mono ?_
    rintro e w0 ⟨rfl, rfl⟩
    go_wp2_with fail
    refine HX.out.mono ?_
    rintro e w0 ⟨rfl, rfl⟩
    go_wp2_with fail
    refine (HN.out _).mono ?_
    rintro e w1 ⟨rfl, rfl⟩
    go_wp2_with fail
    refine (HF.out _).mono ?_
    rintro e w2 ⟨rfl, h1, h2⟩
    have H1 := Lib.hid h1; have HG2 := Lib.hid (below_grown h2 (some rb))
    clear h1 h2
    go_wp2_with fail
    exact ⟨rfl, _, rfl, H1.out, Nat.le_refl _, HG2.out⟩
  · have e1 : decide ((x : Int) < 48) = false := decide_eq_false (by omega)
    have e2 : decide ((57 : Int) < (x : Int)) = true := decide_eq_true (by omega)
    clear hnd
    go_enter Tryz.func152, Tryz.ntmps152
    go_wp2_with fail
    refine HA.out.mono ?_
    rintro e w0 ⟨rfl, rfl⟩
    go_wp2_with fail
    refine HT.out.mono ?_
    rintro e w0 ⟨rfl, rfl⟩
    go_wp2_with fail
    refine HX.out.mono ?_
    rintro e w0 ⟨rfl, rfl⟩
    go_wp2_with fail
    refine (HN.out _).mono ?_
    rintro e w1 ⟨rfl, rfl⟩
    go_wp2_with fail
    refine (HF.out _).mono ?_
    rintro e w2 ⟨rfl, h1, h2⟩
    have H1 := Lib.hid h1; have HG2 := Lib.hid (below_grown h2 (some rb))
    clear h1 h2
    go_wp2_with fail
    exact ⟨rfl, _, rfl, H1.out, Nat.le_refl _, HG2.out⟩
set_option maxRecDepth 100000 in
set_option maxHeartbeats 1000000 in
theorem one_num (rb E d : Nat) (t : Rd.Tok) (T : List Rd.Tok) (c : UInt8) (r : List UInt8) (n : Nat) (ht : t.1 = c :: r) (hd : Lex.digit c.toNat = true) (hnum : Num.numOf t.1 = .inl n) (hlen : t.1.length ≤ 100000) : OneC rb E d (t :: T) (.ok (.num t.2 n) T) := by
  intro w henv hr
  obtain ⟨n40, nl, n45, n48, n57⟩ := digit_not hd
  have HA := Lib.hid (At_any rb (t :: T) E w hr)
  have HT := Lib.hid (Take_no rb (t :: T) E [40] w hr (by simp) (by show t.1 ≠ [40]; rw [ht]; exact first_not n40))
  have HX := Lib.hid (Text_any rb (t :: T) E w hr)
  have HP := Lib.hid (Pass_any rb t T E w hr (by rw [ht]; simp))
  have hat : Ex.atOf E (t :: T) = t.2 := rfl
  have htx : textOf (t :: T) = t.1 := rfl
  rw [hat] at HA
  rw [htx, ht] at HX
  rw [ht] at HP
  have hnm := fun w => Name_any c r w
  rw [nl] at hnm
  have HN := Lib.hid hnm
  have HL := Lib.hid hr.lt
  have hnb := fun w => Number_any (c :: r) w (by rw [ht] at hlen; exact hlen) (by simp) (by simpa using n45)
  rw [← ht, hnum, ht] at hnb
  simp only [Num.numbered] at hnb
  have HNB := Lib.hid hnb
  have hemp : ((c :: r) == ([] : List UInt8)) = false := rfl
  have hemp2 : (c :: r).isEmpty = false := rfl
  have s0 : ∀ h : 0 < (bstr (c :: r)).size, ((bstr (c :: r))[0]'h).toNat = c.toNat := fun h => rfl
  have l0 : (bstr (c :: r)).size = r.length + 1 := by rw [bstr_size, List.length_cons]
  have m0 : (bstr (c :: r)).toList.isEmpty = false := by rw [bstr_toList]; rfl
  have hp : (0 : Int) < (r.length : Int) + 1 := by omega
  have e1 : decide ((c.toNat : Int) < 48) = false := decide_eq_false (by omega)
  have e2 : decide ((57 : Int) < (c.toNat : Int)) = false := decide_eq_false (by omega)
  generalize t.2 = at_ at *
  generalize c.toNat = x at *
  generalize bstr (c :: r) = S at *
  clear hr henv hat htx hnm hd n40 nl n45 n48 n57 hnb hnum hlen ht
  go_enter Tryz.func152, Tryz.ntmps152
  go_wp2_with fail
  refine HA.out.mono ?_
  rintro e w0 ⟨rfl, rfl⟩
  go_wp2_with fail
  refine HT.out.mono ?_
  rintro e w0 ⟨rfl, rfl⟩
  go_wp2_with fail
  refine HX.out.mono ?_
  rintro e w0 ⟨rfl, rfl⟩
  go_wp2_with fail
  refine (HN.out _).mono ?_
  rintro e w1 ⟨rfl, rfl⟩
  go_wp2_with fail
  refine HP.out.mono ?_
  rintro e w1 ⟨rfl, hr1, hg1⟩
  have HR1 := Lib.hid hr1; have HG1 := Lib.hid hg1
  clear hr1 hg1
  go_wp2_with fail
  refine (HNB.out _).mono ?_
  rintro e w2 ⟨rfl, hb2⟩
  have hr2 := HR1.out.below hb2
  have hg2 := grownBy_trans HG1.out (below_grown hb2 (some rb))
  have hrow := RowAt.new w2 202 #[.int .i64 1, .int .i64 (at_ : Nat), .int .i64 (n : Nat), .string ByteArray.empty, .string ByteArray.empty, .pointer none, .pointer none]
  have hb := (Below.refl w2.heap.size w2).alloc (Nat.le_refl _) (.cells #[.int .i64 1, .int .i64 (at_ : Nat), .int .i64 (n : Nat), .string ByteArray.empty, .string ByteArray.empty, .pointer none, .pointer none] 202)
  have HF : Hid (IsX (w2.alloc (.cells #[.int .i64 1, .int .i64 (at_ : Nat), .int .i64 (n : Nat), .string ByteArray.empty, .string ByteArray.empty, .pointer none, .pointer none] 202)) rb w2.heap.size (.num at_ n) ∧ Rdr (w2.alloc (.cells #[.int .i64 1, .int .i64 (at_ : Nat), .int .i64 (n : Nat), .string ByteArray.empty, .string ByteArray.empty, .pointer none, .pointer none] 202)) rb T E ∧ w0.grownBy (w2.alloc (.cells #[.int .i64 1, .int .i64 (at_ : Nat), .int .i64 (n : Nat), .string ByteArray.empty, .string ByteArray.empty, .pointer none, .pointer none] 202)) (some rb)) :=
    Lib.hid ⟨⟨Nat.lt_of_lt_of_le HL.out hg2.size, hrow⟩, hr2.below hb, grownBy_trans hg2 (below_grown hb _)⟩
  clear hr2 hg2 hrow hb hb2
  go_wp2_with fail
  go_ret
  exact ⟨_, rfl, HF.out⟩
set_option maxRecDepth 100000 in
set_option maxHeartbeats 1000000 in
theorem one_numBad (rb E d : Nat) (t : Rd.Tok) (T : List Rd.Tok) (c : UInt8) (r : List UInt8) (en : Nat) (ht : t.1 = c :: r) (hd : Lex.digit c.toNat = true) (hnum : Num.numOf t.1 = .inr en) (hlen : t.1.length ≤ 100000) : OneC rb E d (t :: T) (.bad en t.2) := by
  intro w henv hr
  obtain ⟨n40, nl, n45, n48, n57⟩ := digit_not hd
  have HA := Lib.hid (At_any rb (t :: T) E w hr)
  have HT := Lib.hid (Take_no rb (t :: T) E [40] w hr (by simp) (by show t.1 ≠ [40]; rw [ht]; exact first_not n40))
  have HX := Lib.hid (Text_any rb (t :: T) E w hr)
  have HP := Lib.hid (Pass_any rb t T E w hr (by rw [ht]; simp))
  have hat : Ex.atOf E (t :: T) = t.2 := rfl
  have htx : textOf (t :: T) = t.1 := rfl
  rw [hat] at HA
  rw [htx, ht] at HX
  rw [ht] at HP
  have hnm := fun w => Name_any c r w
  rw [nl] at hnm
  have HN := Lib.hid hnm
  have HL := Lib.hid hr.lt
  have hnb := fun w => Number_any (c :: r) w (by rw [ht] at hlen; exact hlen) (by simp) (by simpa using n45)
  rw [← ht, hnum, ht] at hnb
  simp only [Num.numbered] at hnb
  have HNB := Lib.hid hnb
  have hemp : ((c :: r) == ([] : List UInt8)) = false := rfl
  have hemp2 : (c :: r).isEmpty = false := rfl
  have s0 : ∀ h : 0 < (bstr (c :: r)).size, ((bstr (c :: r))[0]'h).toNat = c.toNat := fun h => rfl
  have l0 : (bstr (c :: r)).size = r.length + 1 := by rw [bstr_size, List.length_cons]
  have m0 : (bstr (c :: r)).toList.isEmpty = false := by rw [bstr_toList]; rfl
  have hp : (0 : Int) < (r.length : Int) + 1 := by omega
  have e1 : decide ((c.toNat : Int) < 48) = false := decide_eq_false (by omega)
  have e2 : decide ((57 : Int) < (c.toNat : Int)) = false := decide_eq_false (by omega)
  have hF := fun w => Fail_any rb en t.2 w
  unfold thrown at hF
  unfold Post thrown
  have HF := Lib.hid hF
  have HE := Lib.hid henv
  have HTL := Lib.hid (fun w hg => Tell_errno (en : Int) w hg)
  generalize t.2 = at_ at *
  generalize c.toNat = x at *
  generalize bstr (c :: r) = S at *
  clear hr henv hat htx hnm hd n40 nl n45 n48 n57 hnb hnum hlen ht hF
  go_enter Tryz.func152, Tryz.ntmps152
  go_wp2_with fail
  refine HA.out.mono ?_
  rintro e w0 ⟨rfl, rfl⟩
  go_wp2_with fail
  refine HT.out.mono ?_
  rintro e w0 ⟨rfl, rfl⟩
  go_wp2_with fail
  refine HX.out.mono ?_
  rintro e w0 ⟨rfl, rfl⟩
  go_wp2_with fail
  refine (HN.out _).mono ?_
  rintro e w1 ⟨rfl, rfl⟩
  go_wp2_with fail
  refine HP.out.mono ?_
  rintro e w1 ⟨rfl, hr1, hg1⟩
  have HR1 := Lib.hid hr1; have HG1 := Lib.hid hg1
  clear hr1 hg1
  go_wp2_with fail
  refine (HNB.out _).mono ?_
  rintro e w2 ⟨rfl, hb2⟩
  have HG2 := Lib.hid (grownBy_trans HG1.out (below_grown hb2 (some rb)))
  clear hb2
  go_wp2_with fail
  refine (HTL.out _ (HE.out.grown HG2.out HL.out).er).mono ?_
  rintro e w3 ⟨rfl, hb3⟩
  have HG3 := Lib.hid (grownBy_trans HG2.out (below_grown hb3 (some rb)))
  clear hb3
  go_wp2_with fail
  refine (HF.out _).mono ?_
  rintro e w4 ⟨rfl, h1, h2⟩
  have H1 := Lib.hid h1; have HG4 := Lib.hid (grownBy_trans HG3.out (below_grown h2 (some rb)))
  clear h1 h2
  go_wp2_with fail
  exact ⟨rfl, _, rfl, H1.out, HG3.out.size, HG4.out⟩
end Go.Proofs.YtlomecfhobehnaaGreatDoor
end
section
/- Contract of expr.level, and of the parser. -/
namespace Go.Proofs.YtlomecfhobehnaaGreatDoor
open Go.RowKit
set_option linter.unusedVariables false
set_option linter.unusedSimpArgs false
open Rd
open Ex (X levels)
namespace Rd
/-- what is left of a level's loop -/
inductive Chain (rb E : Nat) : Nat → X → Nat → List Tok → Ex.Out → Prop where
  | done {k x d T} : (∀ t T', T = t :: T' → t.1 ∉ levels k) → Chain rb E k x d T (.ok x T)
  | more {k x d t T T' y o} : t.1 ∈ levels k → LevC rb E (k + 1) d T (.ok y T') → T'.length ≤ T.length → Chain rb E k (.bin t.2 t.1 x y) d T' o → Chain rb E k x d (t :: T) o
  | moreBad {k x d t T e p} : t.1 ∈ levels k → LevC rb E (k + 1) d T (.bad e p) → Chain rb E k x d (t :: T) (.bad e p)
theorem Chain.stop {rb E k d : Nat} {x : X} {T : List Tok} {o : Ex.Out} (h : Chain rb E k x d T o) (hn : ∀ t T', T = t :: T' → t.1 ∉ levels k) : o = .ok x T := by
  cases h with
  | done _ => rfl
  | more h1 => exact absurd h1 (hn _ _ rfl)
  | moreBad h1 => exact absurd h1 (hn _ _ rfl)
theorem Chain.go {rb E k d : Nat} {x : X} {t : Tok} {T : List Tok} {o : Ex.Out} (h : Chain rb E k x d (t :: T) o) (ht : t.1 ∈ levels k) :
    (∃ y T', LevC rb E (k + 1) d T (.ok y T') ∧ T'.length ≤ T.length ∧ Chain rb E k (.bin t.2 t.1 x y) d T' o) ∨ (∃ e p, LevC rb E (k + 1) d T (.bad e p) ∧ o = .bad e p) := by
  cases h with
  | done h1 => exact absurd ht (h1 _ _ rfl)
  | more _ h2 h3 h4 => exact .inl ⟨_, _, h2, h3, h4⟩
  | moreBad _ h2 => exact .inr ⟨_, _, h2, rfl⟩
/-- how many tokens a reader has -/
def leftOf (w : World) (rb : Nat) : Nat := match w.cell? ⟨rb, 0, none⟩ with
  | some (.slice _ n _) => n
  | _ => 0
theorem Rdr.left {w : World} {rb E : Nat} {R : List Tok} (h : Rdr w rb R E) : leftOf w rb = R.length := by
  obtain ⟨a, c, h1, _⟩ := h
  have := h1.cell0 0 (by simp)
  simp only [List.getElem_cons_zero] at this
  unfold leftOf
  rw [this]
theorem levels_ne (k j : Nat) (h : j < (levels k).length) : (levels k).getD j [] ≠ [] ∧ (levels k).getD j [] ∈ levels k := by
  rw [List.getD_eq_getElem?_getD, List.getElem?_eq_getElem h]
  have hm : (levels k)[j] ∈ levels k := List.getElem_mem h
  obtain ⟨c, l, h1, _⟩ := Lex.mark_head _ (Ex.level_mark k _ hm).1
  refine ⟨?_, hm⟩
  simp only [Option.getD_some]
  rw [h1]; simp
theorem levels_small (k : Nat) : (levels k).length ≤ 4 := by
  match k with
  | 0 => decide
  | 1 => decide
  | 2 => decide
  | _ + 3 => exact Nat.zero_le _
theorem not_levels {k : Nat} {s : List UInt8} (h : ∀ j, j < (levels k).length → (levels k).getD j [] ≠ s) : s ∉ levels k := by
  intro hm
  obtain ⟨j, hj, rfl⟩ := List.getElem_of_mem hm
  refine h j hj ?_
  rw [List.getD_eq_getElem?_getD, List.getElem?_eq_getElem hj]; rfl
/-- what the inner loop holds -/
def Found (wr : World) (rb E k j : Nat) (T2 : List Tok) (op : List UInt8) : Prop :=
  (op = [] ∧ (∀ i, i < j → (levels k).getD i [] ≠ textOf T2) ∧ Rdr wr rb T2 E) ∨ (∃ t T3, T2 = t :: T3 ∧ t.1 ∈ levels k ∧ op = t.1 ∧ t.1 ≠ [] ∧ Rdr wr rb T3 E)
end Rd
set_option maxRecDepth 100000 in
theorem level_top_ok (rb E d : Nat) (T : List Rd.Tok) (x : X) (R : List Rd.Tok) (h : OneC rb E d T (.ok x R)) : LevC rb E 3 d T (.ok x R) := by
  intro w henv hr
  have H := Lib.hid (h w henv hr)
  clear h henv hr
  go_enter Tryz.func138, Tryz.ntmps138
  go_wp2_with fail
  refine H.out.mono ?_
  rintro e w1 ⟨b, rfl, h1⟩
  go_wp2_with fail
  go_ret
  exact ⟨b, rfl, h1⟩
set_option maxRecDepth 100000 in
theorem level_top_bad (rb E d : Nat) (T : List Rd.Tok) (en p : Nat) (h : OneC rb E d T (.bad en p)) : LevC rb E 3 d T (.bad en p) := by
  intro w henv hr
  have h1 := h w henv hr
  unfold Post thrown at h1 ⊢
  have H := Lib.hid h1
  clear h h1 henv hr
  go_enter Tryz.func138, Tryz.ntmps138
  go_wp2_with fail
  refine H.out.mono ?_
  rintro e w1 ⟨g, rfl, h1⟩
  go_wp2_with fail
  exact ⟨rfl, g, rfl, h1⟩
set_option maxRecDepth 100000 in
theorem level_bad (rb E k d : Nat) (T : List Rd.Tok) (en p : Nat) (hk : k < 3) (h : LevC rb E (k + 1) d T (.bad en p)) : LevC rb E k d T (.bad en p) := by
  intro w henv hr
  have h1 : Calls Tryz.prog 138 #[.pointer (some ⟨rb, 0, none⟩), .int .i64 ((k : Int) + 1), .int .i64 (d : Nat)] w (Post w rb E (.bad en p)) := h w henv hr
  unfold Post thrown at h1 ⊢
  have H := Lib.hid h1
  have k3 : ((k : Int) == 3) = false := by rw [beq_eq_false_iff_ne]; omega
  clear h h1 henv hr
  go_enter Tryz.func138, Tryz.ntmps138
  go_wp2_with fail
  refine H.out.mono ?_
  rintro e w1 ⟨g, rfl, h1⟩
  go_wp2_with fail
  exact ⟨rfl, g, rfl, h1⟩
set_option maxRecDepth 100000 in
set_option maxHeartbeats 2000000 in
theorem level_loop (rb E k d : Nat) (T T1 : List Rd.Tok) (x : X) (o : Ex.Out) (hk : k < 3) (h : LevC rb E (k + 1) d T (.ok x T1)) (hch : Chain rb E k x d T1 o) : LevC rb E k d T o := by
  intro w henv hr
  have h1 : Calls Tryz.prog 138 #[.pointer (some ⟨rb, 0, none⟩), .int .i64 ((k : Int) + 1), .int .i64 (d : Nat)] w (Post w rb E (.ok x T1)) := h w henv hr
  have H := Lib.hid h1
  have HE := Lib.hid henv; have HL := Lib.hid hr.lt; have HCH := Lib.hid hch
  have k3 : ((k : Int) == 3) = false := by rw [beq_eq_false_iff_ne]; omega
  have ki : (k : Int) < 3 := by omega
  obtain ⟨n, hn⟩ : ∃ n, n = (levels k).length := ⟨_, rfl⟩
  have hn4 : n ≤ 4 := by rw [hn]; exact levels_small k
  have HN := Lib.hid hn
  clear h h1 henv hr hch hn
  go_enter Tryz.func138, Tryz.ntmps138
  go_wp2_with fail
  refine H.out.mono ?_
  rintro e w1 ⟨b, rfl, hx1, hr1, hg1⟩
  have HX1 := Lib.hid hx1; have HR1 := Lib.hid hr1; have HG1 := Lib.hid hg1
  clear hx1 hr1 hg1 H
  go_wp2_with fail
  go_loopw [7] (fun v7 wr => ∃ (b : Nat) (y : X) (T2 : List Rd.Tok), v7 = .pointer (some ⟨b, 0, none⟩) ∧ Hid (IsX wr rb b y) ∧ Hid (Rdr wr rb T2 E) ∧ Hid (Chain rb E k y d T2 o) ∧ Hid (w.grownBy wr (some rb))) (fun _ wr => Rd.leftOf wr rb)
  case atStart => exact ⟨b, x, T1, rfl, HX1, HR1, HCH, HG1⟩
  case round =>
    clear HX1 HR1 HCH HG1
    obtain ⟨b, y, T2, rfl, HX, HR, HCH, HG⟩ := hrel
    have HA := Lib.hid (At_any rb T2 E wr HR.out)
    have HEr := Lib.hid (HE.out.grown HG.out HL.out)
    obtain ⟨gk, ck, hlk, hgk, hrow⟩ := HEr.out.lv.2 k hk
    rw [← HN.out] at hlk hrow
    have HROW := Lib.hid hrow
    clear hrow
    go_wp2_with fail
    refine HA.out.mono ?_
    rintro e w0 ⟨rfl, rfl⟩
    obtain ⟨at_, hat⟩ : ∃ a, a = Ex.atOf E T2 := ⟨_, rfl⟩
    rw [← hat]
    have HAT := Lib.hid hat
    clear hat HA
    go_wp2_with fail
    go_loopw [8, 28] (fun v8 v28 wr => ∃ (j : Nat) (op : List UInt8), v28 = .int .i64 j ∧ v8 = .string (bstr op) ∧ j ≤ n ∧ Hid (Rd.Found wr rb E k j T2 op) ∧ Hid (w0.grownBy wr (some rb))) (fun _ v28 _ => n - (intOf v28).toNat)
    case atStart => exact ⟨0, [], rfl, rfl, by omega, Lib.hid (.inl ⟨rfl, fun i hi => by omega, HR.out⟩), Lib.hid (grown_refl _ _)⟩
    case round =>
      obtain ⟨j, op, rfl, rfl, hj, HF, HG2⟩ := hrel
      have hrb : rb < w0.heap.size := HR.out.lt
      have hcellj : ∀ i, i < n → wr.cell? (gk.add i) = some (.string (bstr ((levels k).getD i []))) := fun i hi =>
        (World.cell?_of_block (a := gk.add i) (by rw [Addr.add_block]; exact HG2.out.block gk.block (Nat.lt_trans hgk hrb) (fun e => by injection e with e; omega))).trans (HROW.out i hi)
      by_cases hlt : j < n
      · have cj := hcellj j hlt
        have d1 : decide ((j : Int) < (n : Int)) = true := decide_eq_true (by omega)
        have d1n : decide (j < n) = true := decide_eq_true hlt
        have hji : (j : Int) < (n : Int) := by omega
        obtain ⟨hsn, hsm⟩ := levels_ne k j (by rw [← HN.out]; exact hlt)
        obtain ⟨sj, hsj⟩ : ∃ sj, sj = (levels k).getD j [] := ⟨_, rfl⟩
        rw [← hsj] at cj hsn hsm
        have HSJ := Lib.hid hsj; have HSM := Lib.hid hsm; have HLT := Lib.hid hlt
        clear hcellj hsj hsm hlt
        rcases HF.out with ⟨rfl, hno, hr2⟩ | ⟨t, T3, hT, htm, rfl, htn, hr3⟩
        · by_cases hh : textOf T2 = sj
          · cases T2 with
            | nil => exact absurd hh.symm hsn
            | cons t T3 =>
              have hts : t.1 = sj := hh
              have hty := Take_yes rb t T3 E wr hr2 (by rw [hts]; exact hsn)
              rw [hts] at hty
              have HTY := Lib.hid hty
              have HTS := Lib.hid hts; have HSN := Lib.hid hsn
              clear hty hts hh hno hr2 hsn
              go_wp2_with fail
              refine HTY.out.mono ?_
              rintro e w3 ⟨rfl, hr3, hg3⟩
              have HF3 : Hid (Rd.Found w3 rb E k (j + 1) (t :: T3) sj) := Lib.hid (.inr ⟨t, T3, rfl, by rw [HTS.out]; exact HSM.out, HTS.out.symm, by rw [HTS.out]; exact HSN.out, hr3⟩)
              have HG3 := Lib.hid (grownBy_trans HG2.out hg3)
              clear hr3 hg3
              go_wp2_with fail
              go_roundw
              case rel => exact ⟨j + 1, sj, by go_num, rfl, by have := HLT.out; omega, HF3, HG3⟩
              case measure => simp [intOf]; have := HLT.out; omega
          · have HTN := Lib.hid (Take_no rb T2 E sj wr hr2 hsn hh)
            have HF3 : Hid (Rd.Found wr rb E k (j + 1) T2 []) := Lib.hid (.inl ⟨rfl, fun i hi => by
              by_cases e : i = j
              · rw [e, ← HSJ.out]; exact fun e => hh e.symm
              · exact hno i (by omega), hr2⟩)
            clear hh hno hr2 hsn
            go_wp2_with fail
            refine HTN.out.mono ?_
            rintro e w3 ⟨rfl, rfl⟩
            go_wp2_with fail
            go_roundw
            case rel => exact ⟨j + 1, [], by go_num, rfl, by have := HLT.out; omega, HF3, HG2⟩
            case measure => simp [intOf]; have := HLT.out; omega
        · have HF3 : Hid (Rd.Found wr rb E k (j + 1) T2 t.1) := Lib.hid (.inr ⟨t, T3, hT, htm, rfl, htn, hr3⟩)
          have oe : (t.1 == []) = false := by rw [beq_eq_false_iff_ne]; exact htn
          have oe2 : t.1.isEmpty = false := by cases h9 : t.1 with | nil => exact absurd h9 htn | cons a b => rfl
          clear hT htm htn hr3 hsn
          generalize t.1 = op at *
          go_wp2_with fail
          go_roundw
          case rel => exact ⟨j + 1, op, by go_num, rfl, by have := HLT.out; omega, HF3, HG2⟩
          case measure => simp [intOf]; have := HLT.out; omega
      · obtain rfl : j = n := by omega
        have d1 : decide ((j : Int) < (j : Int)) = false := by simp
        clear hcellj
        have HR2 : Hid (rb < w0.heap.size) := Lib.hid hrb
        clear hrb
        rcases HF.out with ⟨rfl, hno, hr2⟩ | ⟨t, T3, hT, htm, rfl, htn, hr3⟩
        · have hstop : o = .ok y T2 := HCH.out.stop (fun t T' e => not_levels fun i hi => by
            have := hno i (by rw [HN.out]; exact hi)
            rw [e] at this
            exact this)
          subst hstop
          have HX2 := Lib.hid (IsX.grown HG2.out y b HX.out)
          have HRR := Lib.hid hr2
          clear hno hr2
          go_wp2_with fail
          go_ret
          exact ⟨b, rfl, HX2.out, HRR.out, grownBy_trans HG.out HG2.out⟩
        · subst hT
          have oe : (t.1 == []) = false := by rw [beq_eq_false_iff_ne]; exact htn
          have oe2 : t.1.isEmpty = false := by cases h9 : t.1 with | nil => exact absurd h9 htn | cons a b => rfl
          have hat2 : at_ = t.2 := HAT.out
          have HEw := Lib.hid (HEr.out.grown HG2.out HR2.out)
          have HLW := Lib.hid (Nat.lt_of_lt_of_le HR2.out HG2.out.size)
          have HX2 := Lib.hid (IsX.grown HG2.out y b HX.out)
          have HR3 := Lib.hid hr3
          have HGG := Lib.hid (grownBy_trans HG.out HG2.out)
          have hleft := HR.out.left
          rw [List.length_cons] at hleft
          have HLF := Lib.hid hleft
          rcases HCH.out.go htm with ⟨z, T', hC, hle, hch2⟩ | ⟨en, p, hC, rfl⟩
          · rw [← hat2] at hch2
            have h2 : Calls Tryz.prog 138 #[.pointer (some ⟨rb, 0, none⟩), .int .i64 ((k : Int) + 1), .int .i64 (d : Nat)] wr (Post wr rb E (.ok z T')) := hC wr HEw.out HR3.out
            have H2 := Lib.hid h2; have HLE := Lib.hid hle; have HCH2 := Lib.hid hch2
            clear h2 hle hch2 hC htm htn hr3 hleft hat2 HCH HF HAT
            generalize t.1 = op at *
            go_wp2_with fail
            refine H2.out.mono ?_
            rintro e w4 ⟨bz, rfl, hx4, hr4, hg4⟩
            have hrow := RowAt.new w4 202 #[.int .i64 3, .int .i64 (at_ : Nat), .int .i64 0, .string ByteArray.empty, .string (bstr op), .pointer (some ⟨b, 0, none⟩), .pointer (some ⟨bz, 0, none⟩)]
            have hb := (Below.refl w4.heap.size w4).alloc (Nat.le_refl _) (.cells #[.int .i64 3, .int .i64 (at_ : Nat), .int .i64 0, .string ByteArray.empty, .string (bstr op), .pointer (some ⟨b, 0, none⟩), .pointer (some ⟨bz, 0, none⟩)] 202)
            have hrr := hr4.below hb
            have hlr := hrr.left
            have HF4 : Hid (IsX (w4.alloc (.cells #[.int .i64 3, .int .i64 (at_ : Nat), .int .i64 0, .string ByteArray.empty, .string (bstr op), .pointer (some ⟨b, 0, none⟩), .pointer (some ⟨bz, 0, none⟩)] 202)) rb w4.heap.size (.bin at_ op y z) ∧ Rdr (w4.alloc (.cells #[.int .i64 3, .int .i64 (at_ : Nat), .int .i64 0, .string ByteArray.empty, .string (bstr op), .pointer (some ⟨b, 0, none⟩), .pointer (some ⟨bz, 0, none⟩)] 202)) rb T' E ∧ w.grownBy (w4.alloc (.cells #[.int .i64 3, .int .i64 (at_ : Nat), .int .i64 0, .string ByteArray.empty, .string (bstr op), .pointer (some ⟨b, 0, none⟩), .pointer (some ⟨bz, 0, none⟩)] 202)) (some rb)) :=
              Lib.hid ⟨⟨b, bz, Nat.lt_of_lt_of_le HLW.out hg4.size, hrow, IsX.grown (below_grown hb _) y b (IsX.grown hg4 y b HX2.out), IsX.grown (below_grown hb _) z bz hx4⟩, hrr, grownBy_trans (grownBy_trans HGG.out hg4) (below_grown hb _)⟩
            have HLR := Lib.hid hlr
            clear hx4 hr4 hg4 hrow hb hrr hlr
            go_wp2_with fail
            go_roundw
            case rel => exact ⟨w4.heap.size, .bin at_ op y z, T', rfl, Lib.hid HF4.out.1, Lib.hid HF4.out.2.1, HCH2, Lib.hid HF4.out.2.2⟩
            case measure =>
              refine Nat.lt_of_le_of_lt (Nat.le_of_eq HLR.out) ?_
              rw [HLF.out]
              have h3 := HLE.out
              omega
          · have h2 : Calls Tryz.prog 138 #[.pointer (some ⟨rb, 0, none⟩), .int .i64 ((k : Int) + 1), .int .i64 (d : Nat)] wr (Post wr rb E (.bad en p)) := hC wr HEw.out HR3.out
            unfold Post thrown at h2
            have H2 := Lib.hid h2
            clear h2 hC htm htn hr3 hleft hat2 HCH HF HAT
            generalize t.1 = op at *
            go_wp2_with fail
            refine H2.out.mono ?_
            rintro e w4 ⟨g, rfl, h1, h3, h4⟩
            have H1 := Lib.hid h1; have H3 := Lib.hid (Nat.le_trans HGG.out.size h3); have HG4 := Lib.hid (grownBy_trans HGG.out h4)
            clear h1 h3 h4
            go_wp2_with fail
            exact ⟨rfl, by unfold Post thrown; exact ⟨g, rfl, H1.out, H3.out, HG4.out⟩⟩
/-- THE PARSER -/
theorem par_all {E : Nat} {c : Ex.Cat} {d : Nat} {T : List Rd.Tok} {o : Ex.Out} (h : Ex.Par Num.numOf E c d T o) (rb : Nat) : (∀ t ∈ T, t.1.length ≤ 100000) →
    match c with
    | .lev k => LevC rb E k d T o
    | .one => OneC rb E d T o
    | .loop k x => Rd.Chain rb E k x d T o := by
  induction h with
  | @top d T o _ ih =>
    intro hT
    cases o with
    | ok x R => exact level_top_ok rb E d T x R (ih hT)
    | bad e p => exact level_top_bad rb E d T e p (ih hT)
  | @lev k d T T' x o hk hp _ ih1 ih2 =>
    intro hT
    exact level_loop rb E k d T T' x o hk (ih1 hT) (ih2 fun t ht => hT t ((hp.less _ _ rfl).1.subset ht))
  | @levBad k d T e p hk _ ih => intro hT; exact level_bad rb E k d T e p hk (ih hT)
  | done h => intro hT; exact .done h
  | @more k x d t T T' y o ht hp _ ih1 ih2 =>
    intro hT
    exact .more ht (ih1 fun t ht => hT t (by simp [ht])) (hp.less _ _ rfl).1.length_le (ih2 fun t ht => hT t (by have := (hp.less _ _ rfl).1.subset ht; simp [this]))
  | moreBad ht _ ih => intro hT; exact .moreBad ht (ih fun t ht => hT t (by simp [ht]))
  | @paren d t T u T' x h1 h2 _ h3 ih => intro hT; exact one_paren rb E d t u T T' x h1 h2 (Read_ok rb E (d + 1) T x (u :: T') (ih fun t ht => hT t (by simp [ht]))) h3
  | @parenNone d t T T' x h1 h2 _ h3 ih => intro hT; exact one_parenNone rb E d t T T' x h1 h2 (Read_ok rb E (d + 1) T x T' (ih fun t ht => hT t (by simp [ht]))) h3
  | @parenBad d t T e p h1 h2 _ ih => intro hT; exact one_parenBad rb E d t T e p h1 h2 (Read_bad rb E (d + 1) T e p (ih fun t ht => hT t (by simp [ht])))
  | @deep t T h1 => intro hT; exact one_deep rb E t T h1
  | @name d t T c r h1 h2 h3 => intro hT; exact one_name rb E d t T c r h1 h2 h3
  | @nameLong d t T c r h1 h2 h3 => intro hT; exact one_nameLong rb E d t T c r h1 h2 h3
  | @none d => intro hT; exact one_none rb E d
  | @mark d t T c r h1 h2 h3 h4 => intro hT; exact one_mark rb E d t T c r h1 h2 h3 h4
  | @num d t T c r n h1 h2 h3 => intro hT; exact one_num rb E d t T c r n h1 h2 h3 (hT t (by simp))
  | @numBad d t T c r e h1 h2 h3 => intro hT; exact one_numBad rb E d t T c r e h1 h2 h3 (hT t (by simp))
theorem Read_any {E d : Nat} {T : List Rd.Tok} {o : Ex.Out} (h : Ex.Par Num.numOf E (.lev 0) d T o) (rb : Nat) (hT : ∀ t ∈ T, t.1.length ≤ 100000) : ReadC rb E d T o := by
  have hC := par_all h rb hT
  cases o with
  | ok x R => exact Read_ok rb E d T x R hC
  | bad e p => exact Read_bad rb E d T e p hC
end Go.Proofs.YtlomecfhobehnaaGreatDoor
end
