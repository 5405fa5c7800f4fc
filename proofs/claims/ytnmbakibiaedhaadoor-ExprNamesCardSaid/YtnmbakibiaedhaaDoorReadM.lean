/- The law ExprAgain, walked. -/
import Derived.Test.YtnmbakibiaedhaaDoorReadL
namespace Go.Proofs.YtnmbakibiaedhaaDoor
open Go.RowKit
set_option linter.unusedVariables false
set_option linter.unusedSimpArgs false
open Rd
open Ex (X levels)
/-- what Parse answers at a text of at most 3000 bytes -/
inductive Ans (l : List UInt8) : Prop where
  | bad : (∀ w : World, Base w → Calls Tryd.prog 12 #[.string (bstr l)] w fun e w' => ∃ t v, e = .returned (.tuple #[.pointer none, .iface t v]) ∧ Below w.heap.size w w') → Ans l
  | ok (x : X) (T : List Rd.Tok) : Lex.lexA l 0 = some T → Ex.Par Num.numOf l.length (.lev 0) 0 T (.ok x []) → (∀ w : World, Base w → Calls Tryd.prog 12 #[.string (bstr l)] w fun e w' => ∃ b, e = .returned (.tuple #[.pointer (some ⟨b, 0, none⟩), .nilIface]) ∧ IsX w' w.heap.size b x ∧ Below w.heap.size w w') → Ans l
theorem err_iface {w : World} {v : Value} {n : Nat} (h : ErrIs w v n) : ∃ t u, v = .iface t u := by
  rcases h with rfl | ⟨g, p, rfl, _⟩
  · exact ⟨_, _, rfl⟩
  · exact ⟨_, _, rfl⟩
theorem answer (l : List UInt8) (hl : l.length ≤ 3000) : Ans l := by
  rcases reads_total l hl with hn | ⟨T, o, hT, hp⟩
  · exact .bad fun w hB => (Parse_lexbad l w hl hB.mks hn).mono fun e w' ⟨⟨g, h⟩, hb⟩ => ⟨_, _, h, hb⟩
  · have hf := few_toks hl hT
    cases o with
    | bad e p =>
      refine .bad fun w hB => (Parse_bad l T e p w hl hB.mks hB.env hT hf hp).mono ?_
      rintro en w' ⟨v, h, he, hb⟩
      obtain ⟨t, u, rfl⟩ := err_iface he
      exact ⟨t, u, h, hb⟩
    | ok x R =>
      cases R with
      | nil => exact .ok x T hT hp fun w hB => Parse_ok l T x w hl hB.mks hB.env hT hf hp
      | cons u R =>
        have hu : u.1 ≠ [] := (Ex.words l.length l 0 T (Nat.le_refl _) hT u ((hp.less _ _ rfl).1.subset (by simp))).1
        refine .bad fun w hB => (Parse_more l T x u R w hl hB.mks hB.env hu hT hf hp).mono ?_
        rintro en w' ⟨v, h, he, hb⟩
        obtain ⟨t, v', rfl⟩ := err_iface he
        exact ⟨t, v', h, hb⟩
theorem read_fine {l : List UInt8} {T : List Rd.Tok} {x : X} {R : List Rd.Tok} (hT : Lex.lexA l 0 = some T) (hp : Ex.Par Num.numOf l.length (.lev 0) 0 T (.ok x R)) : Ex.Fine Num.numOf Num.dec x ∧ Ex.deepAt Num.dec x ≤ 8 ∧ (Ex.pr Num.dec x).length ≤ 30 * l.length := by
  have hf := Ex.fine_read Ex.num_ok hp x R rfl (fun t ht => (Ex.words l.length l 0 T (Nat.le_refl _) hT t ht).2) (by intro k y e; cases e)
  have hd := Ex.deep_read (dec := Num.dec) hp (by omega) x R rfl (by intro k y e; cases e)
  have hn := nodes_read hp x R rfl
  have ht := (toks_le l.length l 0 T (Nat.le_refl _) hT).1
  have hpl := pr_length x hf
  refine ⟨hf, ?_, ?_⟩
  · simp only [Nat.not_lt_zero, if_false] at hd; omega
  · simp only at hn; omega
/-- how an evaluation ends, told in one way -/
def EvIs (w : World) (r : Option Int) (v : Int) (ev : Value) : Prop := match r with
  | some u => v = u ∧ ev = .nilIface
  | none => v = 0 ∧ ErrIs w ev 5
theorem EvIs.below {w w' : World} {r : Option Int} {v : Int} {ev : Value} (h : EvIs w r v ev) (hb : Below w.heap.size w w') : EvIs w' r v ev := by
  unfold EvIs at *
  cases r with
  | some u => exact h
  | none =>
    refine ⟨h.1, ?_⟩
    rcases h.2 with h2 | ⟨g, p, h2, h3⟩
    · exact .inl h2
    · exact .inr ⟨g, p, h2, h3.below hb h3.lt⟩
theorem Eval_is {w0 : World} {mv : Value} {N : Ex.Names} {x : X} (h : EvalC w0 mv N x) {w : World} {rb b : Nat} (hb : Below w0.heap.size w0 w) (hx : IsX w rb b x) :
    Calls Tryd.prog 15 #[.pointer (some ⟨b, 0, none⟩), mv] w fun e w' => ∃ v ev, e = .returned (.tuple #[.int .i64 v, ev]) ∧ EvIs w' (Ex.ev N x) v ev ∧ Below w.heap.size w w' := by
  refine (h w rb b hb hx).mono fun e w' ⟨h1, h2⟩ => ?_
  cases hr : Ex.ev N x with
  | some v => rw [hr] at h2; exact ⟨v, .nilIface, h2, ⟨rfl, rfl⟩, h1⟩
  | none =>
    rw [hr] at h2
    obtain ⟨g, p, h3, h4⟩ := h2
    exact ⟨0, _, h3, ⟨rfl, .inr ⟨g, p, rfl, h4⟩⟩, h1⟩
def codeOf : Option Int → Nat
  | some _ => 0
  | none => 5
theorem Tell_is {w : World} {r : Option Int} {v : Int} {ev : Value} (h : EvIs w r v ev) (hg : ErrType w) : Calls Tryd.prog 14 #[ev] w fun e w' => e = .returned (.int .i64 (codeOf r : Nat)) ∧ Below w.heap.size w w' := by
  cases r with
  | some u => obtain ⟨_, rfl⟩ := h; exact (Tell_nil w).mono fun e w' ⟨h1, h2⟩ => ⟨h1, by rw [h2]; exact Below.refl _ _⟩
  | none => exact Tell_err h.2 hg
theorem EvIs.val {w w' : World} {r : Option Int} {v v' : Int} {ev ev' : Value} (h : EvIs w r v ev) (h' : EvIs w' r v' ev') : v = v' := by
  cases r with
  | some u => exact h.1.trans h'.1.symm
  | none => exact h.1.trans h'.1.symm
set_option maxRecDepth 100000 in
set_option maxHeartbeats 2000000 in
theorem ExprAgain_in (l : List UInt8) (mv : Value) (N : Ex.Names) (n : Nat) (w : World) (hB : Base w) (hN : NamesAt w mv N n) (hn : n ≤ 9223372036854775807) :
    Calls Tryd.prog 3 #[.string (bstr l), mv] w fun e w' => e = .returned (.bool true) ∧ Below w.heap.size w w' := by
  have HR := Lib.hid (reckoned_any w hB)
  have HB := Lib.hid hB; have HN := Lib.hid hN
  have HL := Lib.hid (fun w => long_any l w)
  clear hB hN
  by_cases h900 : 900 < l.length
  · rw [decide_eq_true h900] at HL
    clear h900
    go_enter Tryd.func3, Tryd.ntmps3
    go_wp2_with fail
    refine HR.out.mono ?_
    rintro e w1 ⟨rfl, hb1⟩
    go_wp2_with fail
    refine (HL.out _).mono ?_
    rintro e w2 ⟨rfl, rfl⟩
    have hlen := HN.out.len w1 hb1
    go_wp2_with fail
    go_ret
    exact ⟨rfl, hb1⟩
  rw [decide_eq_false h900] at HL
  by_cases h20 : 20 < n
  · have d1 : decide ((20 : Int) < (n : Int)) = true := decide_eq_true (by omega)
    clear h900
    go_enter Tryd.func3, Tryd.ntmps3
    go_wp2_with fail
    refine HR.out.mono ?_
    rintro e w1 ⟨rfl, hb1⟩
    go_wp2_with fail
    refine (HL.out _).mono ?_
    rintro e w2 ⟨rfl, rfl⟩
    have hlen := HN.out.len w1 hb1
    go_wp2_with fail
    go_ret
    exact ⟨rfl, hb1⟩
  have d1 : decide ((20 : Int) < (n : Int)) = false := decide_eq_false (by omega)
  have hl3 : l.length ≤ 3000 := by omega
  cases answer l hl3 with
  | bad hbad =>
    have HP := Lib.hid hbad
    clear hbad h900
    go_enter Tryd.func3, Tryd.ntmps3
    go_wp2_with fail
    refine HR.out.mono ?_
    rintro e w1 ⟨rfl, hb1⟩
    go_wp2_with fail
    refine (HL.out _).mono ?_
    rintro e w2 ⟨rfl, rfl⟩
    have hlen := HN.out.len w1 hb1
    have HB1 := Lib.hid hb1
    clear hb1
    go_wp2_with fail
    refine (HP.out w1 (HB.out.up HB1.out)).mono ?_
    rintro e w3 ⟨t, v, rfl, hb3⟩
    go_wp2_with fail
    go_ret
    exact ⟨rfl, HB1.out.trans (hb3.mono HB1.out.size)⟩
  | ok x T hT hp hok =>
    obtain ⟨hf, hd, hpl⟩ := read_fine hT hp
    have HP := Lib.hid hok
    have HF := Lib.hid hf; have HD := Lib.hid hd
    have hpl2 : (Ex.pr Num.dec x).length ≤ 27000 := by omega
    clear hok hT hp hf hd hpl h900
    go_enter Tryd.func3, Tryd.ntmps3
    go_wp2_with fail
    refine HR.out.mono ?_
    rintro e w1 ⟨rfl, hb1⟩
    go_wp2_with fail
    refine (HL.out _).mono ?_
    rintro e w2 ⟨rfl, rfl⟩
    have hlen := HN.out.len w1 hb1
    have HB1 := Lib.hid hb1
    clear hb1
    go_wp2_with fail
    refine (HP.out w1 (HB.out.up HB1.out)).mono ?_
    rintro e w3 ⟨b, rfl, hx3, hb3⟩
    have HX3 := Lib.hid hx3
    have HB3 := Lib.hid (HB1.out.trans (hb3.mono HB1.out.size))
    have HE3 := Lib.hid (env_up (HB.out.up HB1.out).env hb3 (Nat.le_refl _))
    have HS3 := Lib.hid hb3.size
    obtain ⟨S, hS⟩ : ∃ S, S = Ex.pr Num.dec x := ⟨_, rfl⟩
    have htx := Text_x x HF.out w3 w1.heap.size b HE3.out.lv hb3.size HX3.out (by omega)
    rw [← hS] at htx hpl2
    have HTX := Lib.hid htx
    have HSX := Lib.hid hS
    clear htx hx3 hb3 hlen hS
    go_wp2_with fail
    refine HTX.out.mono ?_
    rintro e w4 ⟨rfl, hb4⟩
    have HX4 := Lib.hid (IsX.grown (below_grown hb4 (some w1.heap.size)) x b HX3.out)
    have HB4 := Lib.hid (HB3.out.trans (hb4.mono HB3.out.size))
    clear hb4
    by_cases hlong : 3000 < S.length
    · have HPL := Lib.hid (Parse_long S w4 hlong (by omega))
      have HT4 := Lib.hid (fun w (h : ErrType w) => Tell_errno 4 w h)
      have d3 : decide ((3000 : Int) < (S.length : Int)) = true := decide_eq_true (by omega)
      have d3n : decide (3000 < S.length) = true := decide_eq_true hlong
      clear hlong
      go_wp2_with fail
      refine HPL.out.mono ?_
      rintro e w5 ⟨rfl, hb5⟩
      have HB5 := Lib.hid (HB4.out.trans (hb5.mono HB4.out.size))
      clear hb5
      go_wp2_with fail
      refine (HT4.out w5 (HB.out.up HB5.out).env.er).mono ?_
      rintro e w6 ⟨rfl, hb6⟩
      have HB6 := Lib.hid (HB5.out.trans (hb6.mono HB5.out.size))
      clear hb6
      go_wp2_with fail
      go_ret
      exact ⟨rfl, HB6.out⟩
    · have hS3 : S.length ≤ 3000 := by omega
      have hpp := fun w (h : Base w) => parse_pr x HF.out HD.out (by rw [← HSX.out]; exact hS3) w h.mks h.env
      rw [← HSX.out] at hpp
      have HPP := Lib.hid hpp
      clear hpp hlong
      go_wp2_with fail
      refine (HPP.out w4 (HB.out.up HB4.out)).mono ?_
      rintro e w5 ⟨b2, y, hsame, rfl, hy5, hb5⟩
      have HX5 := Lib.hid (IsX.grown (below_grown hb5 (some w1.heap.size)) x b HX4.out)
      have HB5 := Lib.hid (HB4.out.trans (hb5.mono HB4.out.size))
      have HY5 := Lib.hid hy5
      have HSY := Lib.hid hsame
      have hfy := Same.fine hsame HF.out
      have HFY := Lib.hid hfy
      have hty := Text_x y hfy w5 w4.heap.size b2 (env_up (HB.out.up HB4.out).env hb5 (Nat.le_refl _)).lv hb5.size hy5 (by rw [← hsame.pr.2, ← HSX.out]; omega)
      rw [← hsame.pr.2, ← HSX.out] at hty
      have HTY := Lib.hid hty
      clear hb5 hy5 hsame hfy hty
      go_wp2_with fail
      refine HTY.out.mono ?_
      rintro e w6 ⟨rfl, hb6⟩
      have HX6 := Lib.hid (IsX.grown (below_grown hb6 (some w1.heap.size)) x b HX5.out)
      have HY6 := Lib.hid (IsX.grown (below_grown hb6 (some w4.heap.size)) y b2 HY5.out)
      have HB6 := Lib.hid (HB5.out.trans (hb6.mono HB5.out.size))
      clear hb6
      have HEX := Lib.hid (Eval_is (Eval_x w mv N n HN.out x HF.out) HB6.out HX6.out)
      have hsne : (S != S) = false := by simp
      go_wp2_with fail
      refine HEX.out.mono ?_
      rintro e w7 ⟨v, ev, rfl, hev, hb7⟩
      have HB7 := Lib.hid (HB6.out.trans (hb7.mono HB6.out.size))
      have HY7 := Lib.hid (IsX.grown (below_grown hb7 (some w4.heap.size)) y b2 HY6.out)
      have HV7 := Lib.hid hev
      clear hb7 hev
      have hey := Eval_is (Eval_x w mv N n HN.out y HFY.out) HB7.out HY7.out
      rw [← HSY.out.ev] at hey
      have HEY := Lib.hid hey
      clear hey
      go_wp2_with fail
      refine HEY.out.mono ?_
      rintro e w8 ⟨v2, ev2, rfl, hev2, hb8⟩
      have HB8 := Lib.hid (HB7.out.trans (hb8.mono HB7.out.size))
      have HV8 := Lib.hid (HV7.out.below hb8)
      obtain rfl := HV7.out.val hev2
      have HW8 := Lib.hid hev2
      clear hb8 hev2
      obtain ⟨c, hc⟩ : ∃ c, c = codeOf (Ex.ev N x) := ⟨_, rfl⟩
      have HC := Lib.hid hc
      have hcc : ((c : Int) != (c : Int)) = false := by simp
      have ht1 := Tell_is HV8.out (HB.out.up HB8.out).env.er
      rw [← hc] at ht1
      have HT1 := Lib.hid ht1
      clear hc ht1
      go_wp2_with fail
      refine HT1.out.mono ?_
      rintro e w9 ⟨rfl, hb9⟩
      have HB9 := Lib.hid (HB8.out.trans (hb9.mono HB8.out.size))
      have HV9 := Lib.hid (HV8.out.below hb9)
      have ht2 := Tell_is (HW8.out.below hb9) (HB.out.up HB9.out).env.er
      rw [← HC.out] at ht2
      have HT2 := Lib.hid ht2
      clear ht2 hb9
      go_wp2_with fail
      refine HT2.out.mono ?_
      rintro e w10 ⟨rfl, hb10⟩
      have HB10 := Lib.hid (HB9.out.trans (hb10.mono HB9.out.size))
      have HV10 := Lib.hid (HV9.out.below hb10)
      clear hb10
      have q1 : ¬ 9223372036854775807 < 1 + S.length := by omega
      have q2 : ¬ 9223372036854775807 < 1 + S.length + 3 := by omega
      have q3 : ¬ 9223372036854775807 < S.length + 1 := by omega
      have q4 : ¬ 9223372036854775807 < S.length + 1 + 3 := by omega
      obtain ⟨Z, hZ⟩ : ∃ Z, Z = 40 :: (S ++ [41, 42, 49]) := ⟨_, rfl⟩
      have hz : ({ data := #[40] } : ByteArray) ++ bstr S ++ { data := #[41, 42, 49] } = bstr Z := by
        rw [show ({ data := #[40] } : ByteArray) = bstr [40] from rfl, show ({ data := #[41, 42, 49] } : ByteArray) = bstr [41, 42, 49] from rfl, bstr_append, bstr_append, hZ]
        rfl
      have hZl : Z.length = S.length + 4 := by rw [hZ]; simp
      have HZ := Lib.hid hz
      by_cases hzl : 3000 < Z.length
      · have hpl := Parse_long Z w10 hzl (by omega)
        rw [← hz] at hpl
        have HPL := Lib.hid hpl
        have HT4 := Lib.hid (fun w (h : ErrType w) => Tell_errno 4 w h)
        clear hpl hz hzl hZl hZ
        go_wp2_with fail
        refine HPL.out.mono ?_
        rintro e w11 ⟨rfl, hb11⟩
        have HB11 := Lib.hid (HB10.out.trans (hb11.mono HB10.out.size))
        clear hb11
        go_wp2_with fail
        refine (HT4.out w11 (HB.out.up HB11.out).env.er).mono ?_
        rintro e w12 ⟨rfl, hb12⟩
        have HB12 := Lib.hid (HB11.out.trans (hb12.mono HB11.out.size))
        clear hb12
        go_wp2_with fail
        go_ret
        exact ⟨rfl, HB12.out⟩
      · have hzl2 : Z.length ≤ 3000 := by omega
        obtain ⟨TZ, hTZ, hTZm⟩ := toks_of (Ex.texts_bracket x HF.out)
        have hZ2 : 40 :: (Ex.pr Num.dec x ++ [41, 42, 49]) = Z := by rw [← HSX.out, hZ]
        rw [hZ2] at hTZ
        obtain ⟨k1, k2⟩ := Ex.bracket (num := Num.numOf) (dec := Num.dec) (E := Z.length) (by decide +kernel) x HF.out TZ hTZm
        have hfZ := few_toks hzl2 hTZ
        by_cases hdp : Ex.deepAt Num.dec x + 1 ≤ 8
        · obtain ⟨y2, a0, b0, hsm2, hpar⟩ := k1 hdp
          have hpz := Parse_ok Z TZ _ w10 hzl2 (HB.out.up HB10.out).mks (HB.out.up HB10.out).env hTZ hfZ hpar
          rw [← hz] at hpz
          have HPZ := Lib.hid hpz
          have hfz : Ex.Fine Num.numOf Num.dec (.bin a0 [42] y2 (.num b0 1)) := ⟨by decide, Same.fine hsm2 HF.out, Ex.num_ok (Num.dec 1) 1 (Num.numOf_dec 1 (by decide))⟩
          have hevz : Ex.ev N (.bin a0 [42] y2 (.num b0 1)) = Ex.ev N x := by rw [Ex.ev_once HN.out.rng y2 hfz.2.1, hsm2.ev]
          have HFZ := Lib.hid hfz; have HVZ := Lib.hid hevz
          clear hpz hz hzl hzl2 hZl hZ hZ2 hTZ hTZm k1 k2 hfZ hdp hsm2 hpar hfz hevz
          go_wp2_with fail
          refine HPZ.out.mono ?_
          rintro e w11 ⟨bz, rfl, hxz, hb11⟩
          have HB11 := Lib.hid (HB10.out.trans (hb11.mono HB10.out.size))
          have HV11 := Lib.hid (HV10.out.below hb11)
          have hez := Eval_is (Eval_x w mv N n HN.out _ HFZ.out) HB11.out hxz
          rw [HVZ.out] at hez
          have HEZ := Lib.hid hez
          clear hez hxz hb11
          go_wp2_with fail
          refine HEZ.out.mono ?_
          rintro e w12 ⟨v3, ev3, rfl, hev3, hb12⟩
          have HB12 := Lib.hid (HB11.out.trans (hb12.mono HB11.out.size))
          have HV12 := Lib.hid (HV11.out.below hb12)
          obtain rfl := HV12.out.val hev3
          have HW12 := Lib.hid hev3
          have ht3 := Tell_is hev3 (HB.out.up HB12.out).env.er
          rw [← HC.out] at ht3
          have HT3 := Lib.hid ht3
          clear ht3 hb12 hev3
          go_wp2_with fail
          refine HT3.out.mono ?_
          rintro e w13 ⟨rfl, hb13⟩
          have HB13 := Lib.hid (HB12.out.trans (hb13.mono HB12.out.size))
          have ht4 := Tell_is (HV12.out.below hb13) (HB.out.up HB13.out).env.er
          rw [← HC.out] at ht4
          have HT4 := Lib.hid ht4
          clear ht4 hb13
          go_wp2_with fail
          refine HT4.out.mono ?_
          rintro e w14 ⟨rfl, hb14⟩
          have HB14 := Lib.hid (HB13.out.trans (hb14.mono HB13.out.size))
          clear hb14
          go_wp2_with fail
          go_ret
          exact ⟨rfl, HB14.out⟩
        · obtain ⟨p, hpar⟩ := k2 (by omega)
          have hpz := Parse_bad Z TZ 4 p w10 hzl2 (HB.out.up HB10.out).mks (HB.out.up HB10.out).env hTZ hfZ hpar
          rw [← hz] at hpz
          have HPZ := Lib.hid hpz
          clear hpz hz hzl hzl2 hZl hZ hZ2 hTZ hTZm k1 k2 hfZ hdp hpar
          go_wp2_with fail
          refine HPZ.out.mono ?_
          rintro e w11 ⟨ez, rfl, hez, hb11⟩
          have HB11 := Lib.hid (HB10.out.trans (hb11.mono HB10.out.size))
          have HT4 := Lib.hid (Tell_err hez (HB.out.up HB11.out).env.er)
          obtain ⟨tz, uz, rfl⟩ := err_iface hez
          clear hez hb11
          go_wp2_with fail
          refine HT4.out.mono ?_
          rintro e w12 ⟨rfl, hb12⟩
          have HB12 := Lib.hid (HB11.out.trans (hb12.mono HB11.out.size))
          clear hb12
          go_wp2_with fail
          go_ret
          exact ⟨rfl, HB12.out⟩
theorem ExprAgain_walk (s : ByteArray) (mv : Value) (N : Ex.Names) (n : Nat) (hs : s.size ≤ 140737488351232) (w : World) (hB : Base w) (hN : NamesAt w mv N n) (hn : n ≤ 9223372036854775807) :
    Calls Tryd.prog 3 #[.string s, mv] w fun e w' => e = .returned (.bool true) ∧ Below w.heap.size w w' := by
  obtain ⟨l, rfl⟩ : ∃ l, s = bstr l := ⟨_, eq_bstr s⟩
  exact ExprAgain_in l mv N n w hB hN hn
end Go.Proofs.YtnmbakibiaedhaaDoor
