/- Encode and Wide at numbers of which one is no sign (printed by gen_textbad.py). -/
import Derived.Test.YtnldobfafaajjaaDoorTextE
namespace Go.Proofs.YtnldobfafaajjaaDoor
open Go.RowKit Go.Shelf
set_option linter.unusedVariables false
set_option linter.unusedSimpArgs false
attribute [local go_sem] Oper.semAt_some
def badI (x : Int) : Prop := x < 0 ∨ 1114111 < x ∨ (55296 ≤ x ∧ x ≤ 57343)
theorem is_bad (x : Int) (h : badI x) (w : World) : Calls Tryd.prog 39 #[.int .i64 x] w fun e w' => e = .returned (.bool false) ∧ w = w' := by
  unfold badI at h
  by_cases q1 : 0 ≤ x
  · have d1 : decide (0 ≤ x) = true := decide_eq_true q1
    by_cases q2 : x ≤ 1114111
    · have d2 : decide (x ≤ 1114111) = true := decide_eq_true q2
      have d3 : decide (x < 55296) = false := decide_eq_false (by omega)
      have d4 : decide (57343 < x) = false := decide_eq_false (by omega)
      clear h
      go_enter Tryd.func39, Tryd.ntmps39
      go_wp2_with fail
      go_ret
      exact ⟨rfl, rfl⟩
    · have d2 : decide (x ≤ 1114111) = false := decide_eq_false q2
      clear h
      go_enter Tryd.func39, Tryd.ntmps39
      go_wp2_with fail
      go_ret
      exact ⟨rfl, rfl⟩
  · have d1 : decide (0 ≤ x) = false := decide_eq_false q1
    clear h
    go_enter Tryd.func39, Tryd.ntmps39
    go_wp2_with fail
    go_ret
    exact ⟨rfl, rfl⟩
/-- what is told of a number that is no sign -/
def AtPlace (w w' : World) (k : Nat) (v : Value) : Prop := ∃ g, v = .iface 65 (.pointer (some ⟨g, 0, none⟩)) ∧ RowAt w' g 0 67 [.int .i64 1, .int .i64 (k : Nat)] ∧ Below w.heap.size w w'
theorem getD_left (L : List Nat) (x : Int) (R : List Int) (k : Nat) (h : k < L.length) : ((L.map fun r : Nat => (r : Int)) ++ x :: R).getD k 0 = (L.getD k 0 : Nat) := by
  simp only [List.getD_eq_getElem?_getD]
  rw [List.getElem?_append_left (by simpa using h), List.getElem?_map, List.getElem?_eq_getElem h]; rfl
theorem getD_mid (L : List Nat) (x : Int) (R : List Int) : ((L.map fun r : Nat => (r : Int)) ++ x :: R).getD L.length 0 = x := by
  simp only [List.getD_eq_getElem?_getD]
  rw [List.getElem?_append_right (by simp)]; simp
open Txt in
set_option maxRecDepth 100000 in
set_option maxHeartbeats 2000000 in
theorem Encode_bad (L : List Nat) (x : Int) (R : List Int) (a : Option Addr) (n c : Nat) (w : World) (hn : L.length + (R.length + 1) = n) (hx : badI x) (h9 : n ≤ 100000) (hv : ∀ r ∈ L, good r) (hr : RdI w a ((L.map fun r : Nat => (r : Int)) ++ x :: R)) :
    Calls Tryd.prog 18 #[.slice a n c] w fun e w' => ∃ v, e = .returned (.tuple #[.string (bstr []), v]) ∧ AtPlace w w' L.length v := by
  have HR := Lib.hid hr; have HN := Lib.hid hn; have HV := Lib.hid hv; have HX := Lib.hid hx
  clear hr hn hv hx
  go_enter Tryd.func18, Tryd.ntmps18
  go_wp2_with fail
  go_loopw [4, 9] (fun v4 v9 wr => ∃ (k : Nat) (b : Option Addr) (cb : Nat), k ≤ L.length ∧ v9 = .int .i64 k ∧ v4 = .slice b (enc (L.take k)).length cb ∧ Hid (Owns wr w.heap.size 5 1 b (enc (L.take k)).length cb (bvals (enc (L.take k)))) ∧ Hid (Below w.heap.size w wr)) (fun _ v9 _ => n - (intOf v9).toNat)
  case atStart => exact ⟨0, none, 0, by omega, rfl, rfl, Lib.hid (Owns.nil _ _ _ _), Lib.hid (Below.refl _ _)⟩
  case round =>
    obtain ⟨k, b, cb, hk, rfl, rfl, HO, HB⟩ := hrel
    by_cases hlt : k < L.length
    · have hki : (k : Int) < (n : Int) := by have := HN.out; omega
      have hkl : k < L.length := hlt
      obtain ⟨xa, rfl, hxb, hxc⟩ := (HR.out.below HB.out (Nat.le_refl _)) k (by rw [List.length_append, List.length_map]; omega)
      rw [getD_left L x R k hkl] at hxc
      have hgd : good (L.getD k 0) := by
        have e : L.getD k 0 = L[k] := by rw [List.getD_eq_getElem?_getD, List.getElem?_eq_getElem hkl]; rfl
        rw [e]; exact HV.out _ (List.getElem_mem hkl)
      have hts := take_snoc L k hkl
      have hel := enc_len (L.take k)
      rw [List.length_take] at hel
      generalize L.getD k 0 = r at *
      have hes : enc (L.take (k + 1)) = enc (L.take k) ++ Lib.encodeRune (r : Nat) := by rw [hts, enc_snoc]
      have his := fun W => is_good r hgd W
      have hrb : r ≤ 1114111 := hgd.1
      have hap := fun W (h : Owns W w.heap.size 5 1 b (enc (L.take k)).length cb (bvals (enc (L.take k)))) hB => Tryd.utf8_AppendRune_plain w.heap.size (.slice b (enc (L.take k)).length cb) (enc (L.take k)).length (bvals (enc (L.take k))) (r : Nat) (by omega) (by omega) W h (by omega) hB
      have HES := Lib.hid hes; have HIS := Lib.hid his; have HAP := Lib.hid hap
      have hri : IntKind.i32.wrap (r : Int) = (r : Int) := by rw [IntKind.wrap_i32]; omega
      clear hes his hap hts hgd hxb
      go_wp2_with fail
      refine (HIS.out _).mono ?_
      rintro e w1 ⟨rfl, rfl⟩
      go_wp2_with fail
      refine (HAP.out _ HO.out HB.out.size).mono ?_
      rintro e w2 ⟨v2, rfl, ho2, o, hg2⟩
      obtain ⟨b2, c2, rfl⟩ := ownsFormT ho2
      have hbe := own_alloc_below HB.out HO.out HB.out.size hg2
      rw [runeCells_eq, bvals_app, bvals_length] at ho2
      have hl2 : (enc (L.take k)).length + (Lib.encodeRune (r : Nat)).length = (enc (L.take (k + 1))).length := by rw [HES.out, List.length_append]
      rw [hl2, ← HES.out] at ho2
      have HO2 := Lib.hid ho2; have HBE := Lib.hid hbe
      rw [runeCells_eq, bvals_length, hl2]
      clear ho2 hbe hg2 hl2
      go_wp2_with fail
      go_roundw
      case rel => exact ⟨k + 1, b2, c2, by omega, by go_num, rfl, HO2, HBE⟩
      case measure => simp [intOf]; omega
    · obtain rfl : k = L.length := by omega
      have hki : (L.length : Int) < (n : Int) := by have := HN.out; omega
      obtain ⟨xa, rfl, hxb, hxc⟩ := (HR.out.below HB.out (Nat.le_refl _)) L.length (by rw [List.length_append, List.length_map, List.length_cons]; omega)
      rw [getD_mid L x R] at hxc
      clear hxb
      go_wp2_with fail
      refine (is_bad x HX.out _).mono ?_
      rintro e w1 ⟨rfl, rfl⟩
      have hnew := RowAt.new wr 67 #[.int .i64 1, .int .i64 (L.length : Nat)]
      have hbel := HB.out.alloc HB.out.size (.cells #[.int .i64 1, .int .i64 (L.length : Nat)] 67)
      have HNEW := Lib.hid hnew; have HBEL := Lib.hid hbel
      clear hnew hbel
      go_wp2_with fail
      go_ret2
      exact ⟨_, rfl, _, rfl, HNEW.out, HBEL.out⟩
open Txt in
set_option maxRecDepth 100000 in
set_option maxHeartbeats 4000000 in
theorem Wide_bad (o : Nat) (ho : o = 0 ∨ o = 1) (L : List Nat) (x : Int) (R : List Int) (a : Option Addr) (n c : Nat) (w : World) (hn : L.length + (R.length + 1) = n) (hx : badI x) (h9 : n ≤ 100000) (hv : ∀ r ∈ L, good r) (hr : RdI w a ((L.map fun r : Nat => (r : Int)) ++ x :: R)) :
    Calls Tryd.prog 20 #[.slice a n c, .int .i64 o] w fun e w' => ∃ v, e = .returned (.tuple #[.string (bstr []), v]) ∧ AtPlace w w' L.length v := by
  have HR := Lib.hid hr; have HN := Lib.hid hn; have HV := Lib.hid hv; have HX := Lib.hid hx; have HOO := Lib.hid ho
  clear hr hn hv hx
  have b1 := (Boxed.new w 3 (.int .i64 (o : Nat))).alloc (.cells #[.slice none 0 0] 71)
  have b2 := Boxed.new (w.alloc (.cells #[.int .i64 (o : Nat)] 3)) 71 (.slice none 0 0)
  have hb0 : Below w.heap.size w ((w.alloc (.cells #[.int .i64 (o : Nat)] 3)).alloc (.cells #[.slice none 0 0] 71)) := ((Below.refl _ w).alloc (Nat.le_refl _) _).alloc (by simp) _
  rw [World.size_alloc] at b2
  have hws : WS w o (wide o (L.take 0)) none 0 ((w.alloc (.cells #[.int .i64 (o : Nat)] 3)).alloc (.cells #[.slice none 0 0] 71)) := ⟨b1, b2, Owns.nil _ _ _ _, hb0, by simp⟩
  have HWS := Lib.hid hws
  have t1 : (((o : Int) != 0) && ((o : Int) != 1)) = false := by rcases ho with rfl | rfl <;> rfl
  clear b1 b2 hb0 hws
  rcases ho with rfl | rfl
  all_goals
    go_enter Tryd.func20, Tryd.ntmps20
    go_wp2_with fail
    go_loopw [20] (fun v20 wr => ∃ (k : Nat) (b : Option Addr) (cb : Nat), k ≤ L.length ∧ v20 = .int .i64 k ∧ Hid (WS w _ (wide _ (L.take k)) b cb wr)) (fun v20 _ => n - (intOf v20).toNat)
    case atStart => exact ⟨0, none, 0, by omega, rfl, HWS⟩
    case round =>
      obtain ⟨k, b, cb, hk, rfl, HS⟩ := hrel
      by_cases hlt : k < L.length
      · have hki : (k : Int) < (n : Int) := by have := HN.out; omega
        have hkl : k < L.length := hlt
        obtain ⟨xa, rfl, hxb, hxc⟩ := (HR.out.below HS.out.bel (Nat.le_refl _)) k (by rw [List.length_append, List.length_map]; omega)
        rw [getD_left L x R k hkl] at hxc
        have hgd : good (L.getD k 0) := by
          have e : L.getD k 0 = L[k] := by rw [List.getD_eq_getElem?_getD, List.getElem?_eq_getElem hkl]; rfl
          rw [e]; exact HV.out _ (List.getElem_mem hkl)
        have hts := take_snoc L k hkl
        have hel : ∀ o, (wide o (L.take k)).length ≤ 400000 := fun o => by
          have := wide_len o (L.take k)
          rw [List.length_take] at this; omega
        generalize L.getD k 0 = r at *
        have HTS := Lib.hid hts
        have his := fun W => is_good r hgd W
        have HIS := Lib.hid his
        have hrb : r ≤ 1114111 := hgd.1
        clear his hts hgd hxb
        go_wp2_with fail
        refine (HIS.out _).mono ?_
        rintro e w1 ⟨rfl, rfl⟩
        by_cases h6 : r < 65536
        · have d6 : decide ((r : Int) < 65536) = true := decide_eq_true (by omega)
          go_wp2_with fail
          refine (HS.out.put (by first | exact .inl rfl | exact .inr rfl) r h6 (by have := hel 0; have := hel 1; omega)).mono ?_
          rintro e w2 ⟨rfl, a2, c2, hs2⟩
          have hfin := hs2
          rw [show Txt.unit _ r = wide1 _ r from (if_pos h6).symm, ← wide_snoc, ← HTS.out] at hfin
          have HF := Lib.hid hfin
          clear hfin hs2 HS
          go_wp2_with fail
          go_roundw
          case rel => exact ⟨k + 1, a2, c2, by omega, by go_num, HF⟩
          case measure => simp [intOf]; omega
        · have d6 : decide ((r : Int) < 65536) = false := decide_eq_false (by omega)
          have n1 : 55296 + (r - 65536) / 1024 < 65536 := by omega
          have n2 : 56320 + (r - 65536) % 1024 < 65536 := by omega
          have e1 : bits .or .i64 55296 (((r : Int) - 65536) / 1024) = ((55296 + (r - 65536) / 1024 : Nat) : Int) := by
            rw [show ((r : Int) - 65536) / 1024 = (((r - 65536) / 1024 : Nat) : Int) by omega]
            exact or_great _ (by omega)
          have e2 : bits .and .i64 ((r : Int) - 65536) 1023 = (((r - 65536) % 1024 : Nat) : Int) := by
            rw [show (r : Int) - 65536 = ((r - 65536 : Nat) : Int) by omega]
            exact and_1023 _ (by omega)
          have e3 : bits .or .i64 56320 (((r - 65536) % 1024 : Nat) : Int) = ((56320 + (r - 65536) % 1024 : Nat) : Int) := or_small _ (by omega)
          have hw1 : ∀ o, wide1 o r = Txt.unit o (55296 + (r - 65536) / 1024) ++ Txt.unit o (56320 + (r - 65536) % 1024) := fun o => if_neg h6
          generalize 55296 + (r - 65536) / 1024 = u1 at *
          generalize 56320 + (r - 65536) % 1024 = u2 at *
          generalize (r - 65536) % 1024 = u3 at *
          have HW1 := Lib.hid hw1
          clear hw1
          go_wp2_with fail
          refine (HS.out.put (by first | exact .inl rfl | exact .inr rfl) u1 n1 (by have := hel 0; have := hel 1; omega)).mono ?_
          rintro e w2 ⟨rfl, a2, c2, hs2⟩
          have HS2 := Lib.hid hs2
          clear hs2 HS
          go_wp2_with fail
          refine (HS2.out.put (by first | exact .inl rfl | exact .inr rfl) u2 n2 (by have := hel 0; have := hel 1; rw [List.length_append, Txt.unit_len]; omega)).mono ?_
          rintro e w3 ⟨rfl, a3, c3, hs3⟩
          have hfin := hs3
          rw [List.append_assoc, ← HW1.out, ← wide_snoc, ← HTS.out] at hfin
          have HF := Lib.hid hfin
          clear hfin hs3 HS2
          go_wp2_with fail
          go_roundw
          case rel => exact ⟨k + 1, a3, c3, by omega, by go_num, HF⟩
          case measure => simp [intOf]; omega
      · obtain rfl : k = L.length := by omega
        have hki : (L.length : Int) < (n : Int) := by have := HN.out; omega
        obtain ⟨xa, rfl, hxb, hxc⟩ := (HR.out.below HS.out.bel (Nat.le_refl _)) L.length (by rw [List.length_append, List.length_map, List.length_cons]; omega)
        rw [getD_mid L x R] at hxc
        clear hxb
        go_wp2_with fail
        refine (is_bad x HX.out _).mono ?_
        rintro e w1 ⟨rfl, rfl⟩
        have hnew := RowAt.new wr 67 #[.int .i64 1, .int .i64 (L.length : Nat)]
        have hbel := HS.out.bel.alloc HS.out.bel.size (.cells #[.int .i64 1, .int .i64 (L.length : Nat)] 67)
        have HNEW := Lib.hid hnew; have HBEL := Lib.hid hbel
        clear hnew hbel
        go_wp2_with fail
        go_ret2
        exact ⟨_, rfl, _, rfl, HNEW.out, HBEL.out⟩
end Go.Proofs.YtnldobfafaajjaaDoor
