/- The law TextBack. -/
import Derived.Test.YtnldobfafaajjaaDoorTextI
import Derived.Test.YtnldobfafaajjaaDoorTextJ
import Derived.Test.YtnldobfafaajjaaDoorPlainText3
import Derived.Test.YtnldobfafaajjaaDoorErrAt
namespace Go.Proofs.YtnldobfafaajjaaDoor
open Go.RowKit Go.Shelf
set_option linter.unusedVariables false
set_option linter.unusedSimpArgs false
attribute [local go_sem] Oper.semAt_some
/-- all are signs, or one is the first that is none -/
theorem split_good (L : List Int) : (∃ G : List Nat, L = G.map (fun r : Nat => (r : Int)) ∧ ∀ r ∈ G, Txt.good r) ∨ (∃ (G : List Nat) (x : Int) (R : List Int), L = G.map (fun r : Nat => (r : Int)) ++ x :: R ∧ (∀ r ∈ G, Txt.good r) ∧ badI x) := by
  induction L with
  | nil => exact .inl ⟨[], rfl, fun r h => by cases h⟩
  | cons x L ih =>
    by_cases hx : badI x
    · exact .inr ⟨[], x, L, rfl, fun r h => (by cases h), hx⟩
    · have hx' : ¬ (x < 0 ∨ 1114111 < x ∨ (55296 ≤ x ∧ x ≤ 57343)) := hx
      obtain ⟨n, rfl⟩ := Int.eq_ofNat_of_zero_le (show 0 ≤ x by omega)
      have hg : Txt.good n := by unfold Txt.good; omega
      rcases ih with ⟨G, rfl, h⟩ | ⟨G, y, R, rfl, h, hy⟩
      · refine .inl ⟨n :: G, rfl, fun r hr => ?_⟩
        rcases List.mem_cons.1 hr with rfl | hr
        · exact hg
        · exact h r hr
      · refine .inr ⟨n :: G, y, R, rfl, fun r hr => ?_, hy⟩
        rcases List.mem_cons.1 hr with rfl | hr
        · exact hg
        · exact h r hr
open Txt in
theorem Narrow_any (o : Nat) (ho : o = 0 ∨ o = 1) (l : List UInt8) (w : World) (h9 : l.length ≤ 1000000) :
    Calls Tryd.prog 22 #[.string (bstr l), .int .i64 o] w fun e w' => ∃ a c, e = .returned (.tuple #[.slice a (nar o l).length c, .nilIface]) ∧ Owns w' w.heap.size 3 1 a (nar o l).length c (nvals .i64 (nar o l)) ∧ Below w.heap.size w w' := by
  rcases ho with rfl | rfl
  · exact Narrow_0 l w h9
  · exact Narrow_1 l w h9
open Txt in
set_option maxRecDepth 100000 in
set_option maxHeartbeats 4000000 in
theorem TextBack_bad (G : List Nat) (x : Int) (R : List Int) (a : Option Addr) (n c : Nat) (order : Int) (w : World) (hn : G.length + (R.length + 1) = n) (h9 : n ≤ 100) (hv : ∀ r ∈ G, good r) (hx : badI x) (hr : RdI w a ((G.map fun r : Nat => (r : Int)) ++ x :: R))
    (hT : Lib.Utf8Tabs 3 4 w) (hg : ErrType w) :
    Calls Tryd.prog 5 #[.slice a n c, .int .i64 order] w fun e w' => e = .returned (.bool true) ∧ Below w.heap.size w w' := by
  have hsg := signed_any w hT
  have hgl := hg.lt
  have hd : decide ((100 : Int) < (n : Int)) = false := decide_eq_false (by omega)
  have hpl := pickN_lt order 2 (by omega)
  have hpk := fun W => pick_at order 2 2 W rfl (by omega) (by omega)
  generalize pickN order 2 = o at *
  have ho : o = 0 ∨ o = 1 := by omega
  have HPK := Lib.hid hpk; have HSG := Lib.hid hsg; have HO := Lib.hid ho; have HV := Lib.hid hv; have HX := Lib.hid hx; have HR := Lib.hid hr; have HN := Lib.hid hn; have HG := Lib.hid hg; have HGL := Lib.hid hgl
  clear hpk hsg ho hv hx hr hn hT hpl hg hgl
  go_enter Tryd.func5, Tryd.ntmps5
  go_wp2_with fail
  refine HSG.out.mono ?_
  rintro e w1 ⟨rfl, hb1⟩
  have HB1 := Lib.hid hb1
  clear hb1 HSG
  go_wp2_with fail
  refine (HPK.out _).mono ?_
  rintro e w2 ⟨rfl, rfl⟩
  go_wp2_with fail
  refine (Encode_bad G x R a n c w1 HN.out HX.out (by omega) HV.out (HR.out.below HB1.out (Nat.le_refl _))).mono ?_
  rintro e w2 ⟨v1, rfl, g1, rfl, hr1, hb2⟩
  have hb3 : Below w.heap.size w w2 := HB1.out.trans (hb2.mono HB1.out.size)
  have HB3 := Lib.hid hb3; have HR1 := Lib.hid hr1
  clear hb2 hb3 hr1 HB1
  go_wp2_with fail
  refine (Wide_bad o HO.out G x R a n c w2 HN.out HX.out (by omega) HV.out (HR.out.below HB3.out (Nat.le_refl _))).mono ?_
  rintro e w3 ⟨v2, rfl, g2, rfl, hr2, hb4⟩
  have hr1 := HR1.out.below hb4 HR1.out.lt
  have hb5 : Below w.heap.size w w3 := HB3.out.trans (hb4.mono HB3.out.size)
  have ht1 := Tell_at g1 1 (G.length : Nat) w3 (HG.out.below hb5 HGL.out) hr1
  have HB5 := Lib.hid hb5; have HT1 := Lib.hid ht1; have HR2 := Lib.hid hr2
  clear hb4 hb5 hr1 hr2 ht1 HB3 HR1
  go_wp2_with fail
  refine HT1.out.mono ?_
  rintro e w4 ⟨rfl, hb6⟩
  have hr2 := HR2.out.below hb6 HR2.out.lt
  have hb7 : Below w.heap.size w w4 := HB5.out.trans (hb6.mono HB5.out.size)
  have ht2 := Tell_at g2 1 (G.length : Nat) w4 (HG.out.below hb7 HGL.out) hr2
  have HB7 := Lib.hid hb7; have HT2 := Lib.hid ht2
  clear hb6 hb7 hr2 ht2 HB5 HR2 HT1
  go_wp2_with fail
  refine HT2.out.mono ?_
  rintro e w5 ⟨rfl, hb8⟩
  have hb9 : Below w.heap.size w w5 := HB7.out.trans (hb8.mono HB7.out.size)
  go_wp2_with fail
  go_ret
  exact ⟨rfl, hb9⟩
open Txt in
set_option maxRecDepth 100000 in
set_option maxHeartbeats 4000000 in
theorem TextBack_long (a : Option Addr) (n c : Nat) (order : Int) (w : World) (h9 : 100 < n) (hT : Lib.Utf8Tabs 3 4 w) :
    Calls Tryd.prog 5 #[.slice a n c, .int .i64 order] w fun e w' => e = .returned (.bool true) ∧ Below w.heap.size w w' := by
  have hsg := signed_any w hT
  have hd : decide ((100 : Int) < (n : Int)) = true := decide_eq_true (by omega)
  clear hT
  go_enter Tryd.func5, Tryd.ntmps5
  go_wp2_with fail
  refine hsg.mono ?_
  rintro e w1 ⟨rfl, hb1⟩
  go_wp2_with fail
  go_ret
  exact ⟨rfl, hb1⟩
open Txt in
set_option maxRecDepth 100000 in
set_option maxHeartbeats 4000000 in
theorem TextBack_good (G : List Nat) (a : Option Addr) (n c : Nat) (order : Int) (w : World) (hn : G.length = n) (h9 : n ≤ 100) (hv : ∀ r ∈ G, good r) (hr : RdI w a (G.map fun r : Nat => (r : Int)))
    (hT : Lib.Utf8Tabs 3 4 w) :
    Calls Tryd.prog 5 #[.slice a n c, .int .i64 order] w fun e w' => e = .returned (.bool true) ∧ Below w.heap.size w w' := by
  have hsg := signed_any w hT
  have hd : decide ((100 : Int) < (n : Int)) = false := decide_eq_false (by omega)
  have hpl := pickN_lt order 2 (by omega)
  have hpk := fun W => pick_at order 2 2 W rfl (by omega) (by omega)
  generalize pickN order 2 = o at *
  have ho : o = 0 ∨ o = 1 := by omega
  have hel := enc_len G
  have htot := sgn_tot (enc G)
  have hs1 : (sgn (enc G)).map (·.1) = G := sgn_of_enc G hv
  have hsl : (sgn (enc G)).length = n := by rw [← hn, ← hs1, List.length_map]; rw [hs1]
  have hna := nar_wide o G hv
  have hwl := wide_len o G
  have HPK := Lib.hid hpk; have HSG := Lib.hid hsg; have HO := Lib.hid ho; have HV := Lib.hid hv; have HR := Lib.hid hr; have HN := Lib.hid hn; have HTT := Lib.hid hT
  have HTOT := Lib.hid htot; have HS1 := Lib.hid hs1; have HSL := Lib.hid hsl; have HNA := Lib.hid hna; have HEL := Lib.hid hel; have HWL := Lib.hid hwl
  clear hpk hsg ho hv hr hn hT hpl htot hs1 hsl hna hel hwl
  go_enter Tryd.func5, Tryd.ntmps5
  go_wp2_with fail
  refine HSG.out.mono ?_
  rintro e w1 ⟨rfl, hb1⟩
  have HB1 := Lib.hid hb1
  clear hb1 HSG
  go_wp2_with fail
  refine (HPK.out _).mono ?_
  rintro e w2 ⟨rfl, rfl⟩
  go_wp2_with fail
  refine (Encode_ok G a n c w1 HN.out (by omega) HV.out (HR.out.below HB1.out (Nat.le_refl _))).mono ?_
  rintro e w2 ⟨rfl, hb2⟩
  have hb3 : Below w.heap.size w w2 := HB1.out.trans (hb2.mono HB1.out.size)
  have HB3 := Lib.hid hb3
  clear hb2 hb3 HB1
  go_wp2_with fail
  refine (Wide_ok o HO.out G a n c w2 HN.out (by omega) HV.out (HR.out.below HB3.out (Nat.le_refl _))).mono ?_
  rintro e w3 ⟨rfl, hb4⟩
  have hb5 : Below w.heap.size w w3 := HB3.out.trans (hb4.mono HB3.out.size)
  have HB5 := Lib.hid hb5
  clear hb4 hb5 HB3
  go_wp2_with fail
  refine (Decode_any (enc G) (by have := HEL.out; have := HN.out; omega) w3 (Utf8Tabs_below HTT.out HB5.out)).mono ?_
  rintro e w4 ⟨a1, c1, a2, c2, rfl, hds⟩
  have h1 := hds.o1.rdN
  have h2 := hds.o2.rdN
  rw [HS1.out] at h1
  rw [HSL.out]
  have hb6 : Below w.heap.size w w4 := HB5.out.trans (hds.bel.mono HB5.out.size)
  have hz4 : w3.heap.size ≤ w4.heap.size := hds.bel.size
  have H1 := Lib.hid h1; have H2 := Lib.hid h2; have HB6 := Lib.hid hb6
  clear hds h1 h2 hb6 HB5 hz4
  go_wp2_with fail
  refine (Narrow_any o HO.out (wide o G) w4 (by have := HWL.out; have := HN.out; omega)).mono ?_
  rintro e w5 ⟨a5, c5, rfl, ho5, hb7⟩
  rw [HNA.out] at ho5 ⊢
  have h5 := ho5.rdN
  have h1 := H1.out.below hb7 (Nat.le_refl _)
  have h2 := H2.out.below hb7 (Nat.le_refl _)
  have hb8 : Below w.heap.size w w5 := HB6.out.trans (hb7.mono HB6.out.size)
  have hra := HR.out.below hb8 (Nat.le_refl _)
  rw [HN.out]
  have H5 := Lib.hid h5; have H1 := Lib.hid h1; have H2 := Lib.hid h2; have HB8 := Lib.hid hb8; have HRA := Lib.hid hra
  clear h5 h1 h2 hb7 hb8 hra ho5 HB6
  obtain ⟨S, hS⟩ : ∃ S, S = sgn (enc G) := ⟨_, rfl⟩
  have hsl := HSL.out; have htot := HTOT.out; have h2 := H2.out; have hel := HEL.out; have hnn := HN.out
  rw [← hS] at hsl htot h2
  generalize enc G = T at *
  have hTl : T.length ≤ 400 := by omega
  have HSL2 := Lib.hid hsl; have HTOT2 := Lib.hid htot; have H22 := Lib.hid h2; have HN2 := Lib.hid hnn
  clear hsl htot h2 hel hS HSL HTOT H2 HEL HS1 hnn
  go_wp2_with fail
  go_loopw [13, 14] (fun v13 v14 wr => ∃ i : Nat, i ≤ n ∧ v14 = .int .i64 i ∧ v13 = .int .i64 (tot (S.take i) : Nat) ∧ Hid (wr = w5)) (fun _ v14 _ => n - (intOf v14).toNat)
  case atStart => exact ⟨0, by omega, rfl, rfl, Lib.hid rfl⟩
  case round =>
    obtain ⟨i, hi, rfl, rfl, HW⟩ := hrel
    obtain rfl := HW.out
    by_cases hlt : i < n
    · have hki : (i : Int) < (n : Int) := by omega
      have hil : i < S.length := by rw [HSL2.out]; exact hlt
      obtain ⟨x2, rfl, hc2⟩ := rd_at H22.out i hil
      have hts := tot_snoc S i hil
      have htl := tot_take_le S (i + 1)
      rw [HTOT2.out] at htl
      generalize S.getD i (0, 0) = rn at *
      obtain ⟨r, m⟩ := rn
      simp only at hc2 hts
      generalize htt : tot (S.take i) = t at *
      generalize htu : tot (S.take (i + 1)) = u at *
      subst hts
      have hw1 : IntKind.i64.wrap ((t : Int) + (m : Int)) = (t : Int) + (m : Int) := i64_in' _ (by omega) (by omega)
      have hc := hc2 wr (Below.refl _ _)
      have HTU := Lib.hid htu
      clear htt htu hc2
      go_wp2_with fail
      go_roundw
      case rel => exact ⟨i + 1, by omega, by go_num, by rw [HTU.out]; rfl, Lib.hid trivial⟩
      case measure => simp [intOf]; omega
    · obtain rfl : i = n := by omega
      have hd9 : decide ((i : Int) < (i : Int)) = false := by simp
      have hti : tot (S.take i) = T.length := by rw [List.take_of_length_le (by rw [HSL2.out]; exact Nat.le_refl _)]; exact HTOT2.out
      rw [hti]
      have he1 := fun q => EqualR_yes a1 a i i c1 c _ (wr.drewN q) (by rw [List.length_map]; exact HN2.out) rfl (by omega) (H1.out.drewN q) (HRA.out.drewN q)
      have he2 := fun q => EqualR_yes a5 a i i c5 c _ (wr.drewN q) (by rw [List.length_map]; exact HN2.out) rfl (by omega) (H5.out.drewN q) (HRA.out.drewN q)
      have HE1 := Lib.hid he1; have HE2 := Lib.hid he2
      clear he1 he2 hti
      go_wp2_with fail
      refine (HE1.out 0).mono ?_
      rintro e w6 ⟨rfl, q, rfl⟩
      have h2 := HE2.out (0 + q)
      rw [← World.drewN_drewN] at h2
      have HE3 := Lib.hid h2
      clear h2 HE1 HE2
      go_wp2_with fail
      refine HE3.out.mono ?_
      rintro e w7 ⟨rfl, q2, rfl⟩
      go_wp2_with fail
      go_ret
      exact ⟨rfl, bdrewN HB8.out _⟩
/-- what came in, as it is read -/
theorem TextBack_walk (w : World) (a : Option Addr) (n c : Nat) (zs : List Int) (order : Int) (hz : IsInts .i64 w a n c zs) (h1 : -9223372036854775808 ≤ order) (h2 : order ≤ 9223372036854775807) (hT : Lib.Utf8Tabs 3 4 w) (hg : ErrType w) :
    Calls Tryd.prog 5 #[.slice a n c, .int .i64 order] w fun e w' => e = .returned (.bool true) ∧ Below w.heap.size w w' := by
  by_cases h9 : 100 < n
  · exact TextBack_long a n c order w h9 hT
  have hr := hz.rd
  have hl := hz.take_len
  rcases split_good (zs.take n) with ⟨G, hG, hv⟩ | ⟨G, x, R, hG, hv, hx⟩
  · rw [hG] at hr hl
    exact TextBack_good G a n c order w (by simpa using hl) (by omega) hv hr hT
  · rw [hG] at hr hl
    exact TextBack_bad G x R a n c order w (by simpa using hl) (by omega) hv hx hr hT hg
end Go.Proofs.YtnldobfafaajjaaDoor
