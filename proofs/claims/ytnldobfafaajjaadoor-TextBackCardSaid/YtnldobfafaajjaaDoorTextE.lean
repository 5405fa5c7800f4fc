/- text.Wide of good signs. -/
import Derived.Test.YtnldobfafaajjaaDoorTextD
namespace Go.Proofs.YtnldobfafaajjaaDoor
open Go.RowKit Go.Shelf
set_option linter.unusedVariables false
set_option linter.unusedSimpArgs false
attribute [local go_sem] Oper.semAt_some
theorem boxT_below {W W' : World} {B g : Nat} {t : TypeId} {v : Value} (h : Boxed W g t v) (hb : Below B W W') (hg : g < B) : Boxed W' g t v := (hb.block g hg).trans h
structure WS (w : World) (o : Nat) (bs : List UInt8) (a : Option Addr) (c : Nat) (wr : World) : Prop where
  oc : Boxed wr w.heap.size 3 (.int .i64 (o : Nat))
  k : Boxed wr (w.heap.size + 1) 71 (.slice a bs.length c)
  ow : Owns wr (w.heap.size + 2) 5 1 a bs.length c (bvals bs)
  bel : Below w.heap.size w wr
  sz : w.heap.size + 2 ≤ wr.heap.size
theorem WS.put {w : World} {o : Nat} {bs : List UInt8} {a : Option Addr} {c : Nat} {wr : World} (h : WS w o bs a c wr) (ho : o = 0 ∨ o = 1) (n : Nat) (hn : n < 65536) (hm : bs.length ≤ 1000000) :
    Calls Tryd.prog 41 #[.int .i64 n, .pointer (some ⟨w.heap.size, 0, none⟩), .pointer (some ⟨w.heap.size + 1, 0, none⟩)] wr fun e w' => e = .returned (.tuple #[]) ∧ ∃ a' c', WS w o (bs ++ Txt.unit o n) a' c' w' := by
  have key : Calls Tryd.prog 41 #[.int .i64 n, .pointer (some ⟨w.heap.size, 0, none⟩), .pointer (some ⟨w.heap.size + 1, 0, none⟩)] wr (PutOut o n (w.heap.size + 1) (w.heap.size + 2) bs.length bs wr) := by
    rcases ho with rfl | rfl
    · exact put_zero n hn w.heap.size (w.heap.size + 1) (w.heap.size + 2) a bs.length c bs wr h.oc.cell h.k h.ow (by omega) h.sz hm
    · exact put_one n hn w.heap.size (w.heap.size + 1) (w.heap.size + 2) a bs.length c bs wr h.oc.cell h.k h.ow (by omega) h.sz hm
  refine key.mono fun e w' ⟨he, a', c', h1, h2, h3⟩ => ⟨he, a', c', ?_⟩
  have hl : (bs ++ Txt.unit o n).length = bs.length + 2 := by rw [List.length_append, Txt.unit_len]
  exact ⟨boxT_below h.oc h3 (by omega), by rw [hl]; exact h1, by rw [hl]; exact h2, h.bel.trans (h3.mono (by omega)), Nat.le_trans h.sz h3.size⟩
theorem ofInt64 (a : Nat) (h : a < 9223372036854775808) : (BitVec.ofInt 64 (a : Int)).toNat = a := by
  rw [BitVec.ofInt_natCast, BitVec.toNat_ofNat]; exact Nat.mod_eq_of_lt (by omega)
theorem bor64 (a b : Nat) (ha : a < 9223372036854775808) (hb : b < 9223372036854775808) : bits .or .i64 (a : Int) (b : Int) = ((a ||| b : Nat) : Int) := by
  have hx : a ||| b < 2 ^ 63 := Nat.or_lt_two_pow (by omega) (by omega)
  show IntKind.i64.wrap ((BitVec.ofInt 64 (a : Int) ||| BitVec.ofInt 64 (b : Int)).toNat : Int) = _
  rw [BitVec.toNat_or, ofInt64 a ha, ofInt64 b hb, IntKind.wrap_i64]
  omega
theorem band64 (a b : Nat) (ha : a < 9223372036854775808) (hb : b < 9223372036854775808) : bits .and .i64 (a : Int) (b : Int) = ((a &&& b : Nat) : Int) := by
  have hx : a &&& b < 2 ^ 63 := Nat.and_lt_two_pow _ (by omega)
  show IntKind.i64.wrap ((BitVec.ofInt 64 (a : Int) &&& BitVec.ofInt 64 (b : Int)).toNat : Int) = _
  rw [BitVec.toNat_and, ofInt64 a ha, ofInt64 b hb, IntKind.wrap_i64]
  omega
theorem or_great (h : Nat) (hh : h < 1024) : bits .or .i64 55296 (h : Int) = ((55296 + h : Nat) : Int) := by
  have e := bor64 55296 h (by omega) (by omega)
  have e2 : 55296 ||| h = 55296 + h := (Nat.two_pow_add_eq_or_of_lt (i := 10) hh 54).symm
  rw [e2] at e
  exact e
theorem or_small (h : Nat) (hh : h < 1024) : bits .or .i64 56320 (h : Int) = ((56320 + h : Nat) : Int) := by
  have e := bor64 56320 h (by omega) (by omega)
  have e2 : 56320 ||| h = 56320 + h := (Nat.two_pow_add_eq_or_of_lt (i := 10) hh 55).symm
  rw [e2] at e
  exact e
theorem and_1023 (x : Nat) (h : x < 9223372036854775808) : bits .and .i64 (x : Int) 1023 = ((x % 1024 : Nat) : Int) := by
  have e := band64 x 1023 h (by omega)
  have e2 : x &&& 1023 = x % 1024 := Nat.and_two_pow_sub_one_eq_mod x 10
  rw [e2] at e
  exact e
open Txt in
set_option maxRecDepth 100000 in
set_option maxHeartbeats 4000000 in
theorem Wide_ok (o : Nat) (ho : o = 0 ∨ o = 1) (L : List Nat) (a : Option Addr) (n c : Nat) (w : World) (hn : L.length = n) (h9 : n ≤ 100000) (hv : ∀ r ∈ L, good r) (hr : RdI w a (L.map fun r : Nat => (r : Int))) :
    Calls Tryd.prog 20 #[.slice a n c, .int .i64 o] w fun e w' => e = .returned (.tuple #[.string (bstr (wide o L)), .nilIface]) ∧ Below w.heap.size w w' := by
  have HR := Lib.hid hr; have HN := Lib.hid hn; have HV := Lib.hid hv; have HOO := Lib.hid ho
  clear hr hn hv
  have b1 := (Boxed.new w 3 (.int .i64 (o : Nat))).alloc (.cells #[.slice none 0 0] 71)
  have b2 := Boxed.new (w.alloc (.cells #[.int .i64 (o : Nat)] 3)) 71 (.slice none 0 0)
  have hb0 : Below w.heap.size w ((w.alloc (.cells #[.int .i64 (o : Nat)] 3)).alloc (.cells #[.slice none 0 0] 71)) := ((Below.refl _ w).alloc (Nat.le_refl _) _).alloc (by simp) _
  rw [World.size_alloc] at b2
  have hws : WS w o (wide o (L.take 0)) none 0 ((w.alloc (.cells #[.int .i64 (o : Nat)] 3)).alloc (.cells #[.slice none 0 0] 71)) := ⟨b1, b2, Owns.nil _ _ _ _, hb0, by simp⟩
  have HWS := Lib.hid hws
  have t1 : (((o : Int) != 0) && ((o : Int) != 1)) = false := by rcases ho with rfl | rfl <;> rfl
  clear b1 b2 hb0 hws
  rcases ho with rfl | rfl
  all_goals
    go_enter Tryd.func20, Tryd.ntmps20
    go_wp2_with fail
    go_loopw [20] (fun v20 wr => ∃ (k : Nat) (b : Option Addr) (cb : Nat), k ≤ n ∧ v20 = .int .i64 k ∧ Hid (WS w _ (wide _ (L.take k)) b cb wr)) (fun v20 _ => n - (intOf v20).toNat)
    case atStart => exact ⟨0, none, 0, by omega, rfl, HWS⟩
    case round =>
      obtain ⟨k, b, cb, hk, rfl, HS⟩ := hrel
      by_cases hlt : k < n
      · have hki : (k : Int) < (n : Int) := by omega
        have hkl : k < L.length := by rw [HN.out]; exact hlt
        obtain ⟨x, rfl, hxb, hxc⟩ := (HR.out.below HS.out.bel (Nat.le_refl _)) k (by rw [List.length_map]; exact hkl)
        have hge : (L.map fun r : Nat => (r : Int)).getD k 0 = (L.getD k 0 : Nat) := by
          simp only [List.getD_eq_getElem?_getD, List.getElem?_map, List.getElem?_eq_getElem hkl]; rfl
        rw [hge] at hxc
        have hgd : good (L.getD k 0) := by
          have e : L.getD k 0 = L[k] := by rw [List.getD_eq_getElem?_getD, List.getElem?_eq_getElem hkl]; rfl
          rw [e]; exact HV.out _ (List.getElem_mem hkl)
        have hts := take_snoc L k hkl
        have hel : ∀ o, (wide o (L.take k)).length ≤ 400000 := fun o => by
          have := wide_len o (L.take k)
          rw [List.length_take] at this; omega
        generalize L.getD k 0 = r at *
        have HTS := Lib.hid hts
        have his := fun W => is_good r hgd W
        have HIS := Lib.hid his
        have hrb : r ≤ 1114111 := hgd.1
        clear his hge hts hgd hxb
        go_wp2_with fail
        refine (HIS.out _).mono ?_
        rintro e w1 ⟨rfl, rfl⟩
        by_cases h6 : r < 65536
        · have d6 : decide ((r : Int) < 65536) = true := decide_eq_true (by omega)
          go_wp2_with fail
          refine (HS.out.put (by first | exact .inl rfl | exact .inr rfl) r h6 (by have := hel 0; have := hel 1; omega)).mono ?_
          rintro e w2 ⟨rfl, a2, c2, hs2⟩
          have hfin := hs2
          rw [show Txt.unit _ r = wide1 _ r from (if_pos h6).symm, ← wide_snoc, ← HTS.out] at hfin
          have HF := Lib.hid hfin
          clear hfin hs2 HS
          go_wp2_with fail
          go_roundw
          case rel => exact ⟨k + 1, a2, c2, by omega, by go_num, HF⟩
          case measure => simp [intOf]; omega
        · have d6 : decide ((r : Int) < 65536) = false := decide_eq_false (by omega)
          have n1 : 55296 + (r - 65536) / 1024 < 65536 := by omega
          have n2 : 56320 + (r - 65536) % 1024 < 65536 := by omega
          have e1 : bits .or .i64 55296 (((r : Int) - 65536) / 1024) = ((55296 + (r - 65536) / 1024 : Nat) : Int) := by
            rw [show ((r : Int) - 65536) / 1024 = (((r - 65536) / 1024 : Nat) : Int) by omega]
            exact or_great _ (by omega)
          have e2 : bits .and .i64 ((r : Int) - 65536) 1023 = (((r - 65536) % 1024 : Nat) : Int) := by
            rw [show (r : Int) - 65536 = ((r - 65536 : Nat) : Int) by omega]
            exact and_1023 _ (by omega)
          have e3 : bits .or .i64 56320 (((r - 65536) % 1024 : Nat) : Int) = ((56320 + (r - 65536) % 1024 : Nat) : Int) := or_small _ (by omega)
          have hw1 : ∀ o, wide1 o r = Txt.unit o (55296 + (r - 65536) / 1024) ++ Txt.unit o (56320 + (r - 65536) % 1024) := fun o => if_neg h6
          generalize 55296 + (r - 65536) / 1024 = u1 at *
          generalize 56320 + (r - 65536) % 1024 = u2 at *
          generalize (r - 65536) % 1024 = u3 at *
          have HW1 := Lib.hid hw1
          clear hw1
          go_wp2_with fail
          refine (HS.out.put (by first | exact .inl rfl | exact .inr rfl) u1 n1 (by have := hel 0; have := hel 1; omega)).mono ?_
          rintro e w2 ⟨rfl, a2, c2, hs2⟩
          have HS2 := Lib.hid hs2
          clear hs2 HS
          go_wp2_with fail
          refine (HS2.out.put (by first | exact .inl rfl | exact .inr rfl) u2 n2 (by have := hel 0; have := hel 1; rw [List.length_append, Txt.unit_len]; omega)).mono ?_
          rintro e w3 ⟨rfl, a3, c3, hs3⟩
          have hfin := hs3
          rw [List.append_assoc, ← HW1.out, ← wide_snoc, ← HTS.out] at hfin
          have HF := Lib.hid hfin
          clear hfin hs3 HS2
          go_wp2_with fail
          go_roundw
          case rel => exact ⟨k + 1, a3, c3, by omega, by go_num, HF⟩
          case measure => simp [intOf]; omega
      · obtain rfl : k = n := by omega
        have hd : decide ((k : Int) < (k : Int)) = false := by simp
        have hall : L.take k = L := List.take_of_length_le (by rw [HN.out]; exact Nat.le_refl _)
        have hs9 := HS.out
        rw [hall] at hs9
        have hcb := hs9.k.cell
        have hcv := conv_ownT hs9.ow
        have hbel := hs9.bel
        have HBEL := Lib.hid hbel
        clear hs9 HS hall hbel
        go_wp2_with fail
        go_ret2
        exact ⟨rfl, HBEL.out⟩
end Go.Proofs.YtnldobfafaajjaaDoor
