/- The law TypesMore. -/
import Derived.Test.YtlpkebngehmimaaGreatDoorMgTypesMore45
import Derived.Test.YtlpkebngehmimaaGreatDoorMgTypesMore47
import Derived.Test.YtlpkebngehmimaaGreatDoorMgTypesMore39
section
/- The law TypesMore. -/
namespace Go.Proofs.YtlpkebngehmimaaGreatDoor
open Go.RowKit
set_option linter.unusedVariables false
set_option linter.unusedSimpArgs false
open Rd
theorem mo_shaped {w w' : World} (h : w.ShapedOpen Tryz.prog) (hb : Below w.heap.size w w') : w'.ShapedOpen Tryz.prog := h.keptBut (hb.frame fun _ => False) (fun _ h => h.elim)
set_option maxRecDepth 100000 in
theorem Contains_zz (s : List UInt8) (w : World) (hs : s.length ≤ 900) (hsh : w.ShapedOpen Tryz.prog) :
    Calls Tryz.prog 9 #[.string (bstr s), .string { data := #[122, 122] }] w fun e w' => (∃ b : Bool, e = .returned (.bool b) ∧ (b = false → Lib.index s [122, 122] = -1)) ∧ w' = w := by
  have hix : Calls Tryz.prog 28 #[.string (bstr s), .string { data := #[122, 122] }] w fun e w' => e = .returned (.int .i64 (Lib.index s [122, 122])) ∧ w' = w :=
    Tryz.strings_Index_shaped (bstr s) (bstr [122, 122]) w hsh (by rw [bstr_size]; omega)
  have HIX := Lib.hid hix
  have hge := Lib.index_ge s [122, 122]
  clear hix
  generalize Lib.index s [122, 122] = k at *
  have HGE := Lib.hid hge
  clear hge
  by_cases h0 : 0 ≤ k
  · have d0 : decide (0 ≤ k) = true := decide_eq_true h0
    clear h0
    go_enter Tryz.func9, Tryz.ntmps9
    go_wp2_with fail
    refine HIX.out.mono ?_
    rintro e w1 ⟨rfl, rfl⟩
    go_wp2_with fail
    go_ret
    exact ⟨⟨_, rfl, fun h => by cases h⟩, rfl⟩
  · have d0 : decide (0 ≤ k) = false := decide_eq_false h0
    have hk : k = -1 := by have := HGE.out; omega
    have HK := Lib.hid hk
    clear h0 hk
    go_enter Tryz.func9, Tryz.ntmps9
    go_wp2_with fail
    refine HIX.out.mono ?_
    rintro e w1 ⟨rfl, rfl⟩
    go_wp2_with fail
    go_ret
    exact ⟨⟨_, rfl, fun _ => HK.out⟩, rfl⟩
theorem mo_head (s : List UInt8) : bstr s ++ { data := #[10, 115, 116, 114, 117, 99, 116, 32, 122, 122, 32, 123, 10, 117, 56, 32, 110, 59, 10] } = bstr (s ++ 10 :: Tm.zzHead) := by
  rw [show ({ data := #[10, 115, 116, 114, 117, 99, 116, 32, 122, 122, 32, 123, 10, 117, 56, 32, 110, 59, 10] } : ByteArray) = bstr (10 :: Tm.zzHead) from rfl]
  simp only [bstr_append]
theorem mo_line (Z nm D : List UInt8) : bstr Z ++ (bstr nm ++ { data := #[32, 122, 122] } ++ bstr D ++ { data := #[91, 110, 93, 59, 10] }) = bstr (Z ++ (nm ++ [32, 122, 122] ++ D ++ [91, 110, 93, 59, 10])) := by
  rw [show ({ data := #[32, 122, 122] } : ByteArray) = bstr [32, 122, 122] from rfl, show ({ data := #[91, 110, 93, 59, 10] } : ByteArray) = bstr [91, 110, 93, 59, 10] from rfl]
  simp only [bstr_append]
theorem mo_end (Z : List UInt8) : bstr Z ++ { data := #[125, 10] } = bstr (Z ++ [125, 10]) := by
  rw [show ({ data := #[125, 10] } : ByteArray) = bstr [125, 10] from rfl]
  simp only [bstr_append]
/-- the text so far -/
def moText (s : List UInt8) (tys : List Tm.Ty) (i : Nat) : List UInt8 := s ++ 10 :: (Tm.zzHead ++ Tm.zzLines 0 ((tys.take i).map (·.name)))
theorem moText_snoc {s : List UInt8} {tys : List Tm.Ty} {i : Nat} {t : Tm.Ty} (h : tys[i]? = some t) (hi : i < tys.length) : moText s tys i ++ (t.name ++ [32, 122, 122] ++ Num.dec i ++ [91, 110, 93, 59, 10]) = moText s tys (i + 1) := by
  unfold moText
  have e : (tys.take (i + 1)).map (·.name) = (tys.take i).map (·.name) ++ [t.name] := by rw [List.take_add_one, h]; simp
  rw [e, Tm.zzLines_snoc, List.length_map, List.length_take, Nat.min_eq_left (by omega), Nat.zero_add]
  unfold Tm.zzLine
  simp
theorem moText_end (s : List UInt8) (tys : List Tm.Ty) : moText s tys tys.length ++ [125, 10] = Tm.zzText s (tys.map (·.name)) := by
  unfold moText Tm.zzText
  rw [List.take_length]
  simp
theorem moText_len {s : List UInt8} {tys : List Tm.Ty} (hs : s.length ≤ 900) (h8 : tys.length ≤ 8) (hn : ∀ t ∈ tys, t.name.length ≤ 12) (i : Nat) : (moText s tys i).length ≤ 1200 := by
  have h1 := Tm.zzLines_len ((tys.take i).map (·.name)) 0 (by rw [List.length_map, List.length_take]; omega) (by
    intro w hw
    rw [List.mem_map] at hw
    obtain ⟨t, ht, rfl⟩ := hw
    exact hn t (List.mem_of_mem_take ht))
  rw [List.length_map, List.length_take] at h1
  have h2 : Tm.zzHead.length = 18 := by decide
  unfold moText
  rw [List.length_append, List.length_cons, List.length_append, h2]
  omega
set_option maxRecDepth 100000 in
set_option maxHeartbeats 8000000 in
theorem TypesMore_in (s : List UInt8) (w : World) (hB : Base w) (hsh : w.ShapedOpen Tryz.prog) : Calls Tryz.prog 3 #[.string (bstr s)] w fun e w' => e = .returned (.bool true) ∧ Below w.heap.size w w' := by
  have HBX := Lib.hid (boxed_any w hB)
  have HLG := Lib.hid (fun W => long_any s W)
  have HB := Lib.hid hB
  have HSH := Lib.hid hsh
  clear hB hsh
  go_enter Tryz.func3, Tryz.ntmps3
  go_wp2_with fail
  refine HBX.out.mono ?_
  rintro e w1 ⟨hb1, _, ab, cb, _, _, _, rfl⟩
  have HB1 := Lib.hid hb1
  clear hb1 HBX
  go_wp2_with fail
  refine (HLG.out _).mono ?_
  rintro e w1 ⟨rfl, rfl⟩
  by_cases h9 : 900 < s.length
  · have d9 : decide (900 < s.length) = true := decide_eq_true h9
    go_wp2_with fail
    go_ret
    exact ⟨rfl, HB1.out⟩
  · have d9 : decide (900 < s.length) = false := decide_eq_false h9
    have hs3 : s.length ≤ 3000 := by omega
    have HS3 := Lib.hid hs3
    have HS9 := Lib.hid (show s.length ≤ 900 by omega)
    have HPS := Lib.hid (parse_read s w1 hs3 (HB.out.up HB1.out))
    have z0 : ¬ 9223372036854775807 < s.length + 19 := by omega
    clear h9 hs3 HLG
    go_wp2_with fail
    refine HPS.out.mono ?_
    rintro e w2 ⟨hb2, ⟨tys, a, cap, vs, hm, rfl⟩ | ⟨hno, g, rfl⟩⟩
    · have HB2 := Lib.hid (HB1.out.trans (hb2.mono HB1.out.size))
      have HM := Lib.hid hm
      have hfn := hm.fine HS3.out
      have HNL := Lib.hid (show ∀ t ∈ tys, t.name.length ≤ 12 from fun t ht => Tm.name_len (hfn.1 t ht).1.2)
      have hn8 := hfn.2.2.2
      have HN8 := Lib.hid hn8
      have hcap := own_cap hm.own
      obtain ⟨n, hn⟩ : ∃ n, n = tys.length := ⟨_, rfl⟩
      rw [← hn] at hn8 hcap ⊢
      have HN := Lib.hid hn
      have HCZ := Lib.hid (Contains_zz s w2 HS9.out (mo_shaped HSH.out HB2.out))
      clear hm hb2 hfn HPS hn
      by_cases h8 : 8 ≤ n
      · have t1 : decide ((8 : Int) ≤ (n : Int)) = true := decide_eq_true (by omega)
        have t2 : decide (8 ≤ n) = true := decide_eq_true h8
        go_wp2_with fail
        go_ret
        exact ⟨rfl, HB2.out⟩
      · have t1 : decide ((8 : Int) ≤ (n : Int)) = false := decide_eq_false (by omega)
        have t2 : decide (8 ≤ n) = false := decide_eq_false h8
        have HN7 := Lib.hid (show n < 8 by omega)
        clear h8
        go_wp2_with fail
        refine HCZ.out.mono ?_
        rintro e w3 ⟨⟨b, rfl, hbz⟩, rfl⟩
        cases b with
        | true =>
          go_wp2_with fail
          go_ret
          exact ⟨rfl, HB2.out⟩
        | false =>
          have HNZ := Lib.hid (Tm.noZ_of_index s (hbz rfl))
          have HDC := Lib.hid (fun i (h : i < 8) W => decimal_any i W (by omega))
          clear hbz HCZ t1 t2
          go_wp2_with fail
          go_loopw [7, 8] (fun v7 v8 wr => ∃ (i : Nat) (Z : Tm.Wd), v8 = .int .i64 (i : Nat) ∧ v7 = .string (bstr Z) ∧ i ≤ n ∧ Hid (Z = moText s tys i) ∧ Hid (Below w3.heap.size w3 wr)) (fun _ v8 _ => n - (intOf v8).toNat)
          case atStart => exact ⟨0, s ++ 10 :: Tm.zzHead, rfl, by rw [← mo_head], Nat.zero_le _, Lib.hid (by unfold moText; simp [Tm.zzLines]), Lib.hid (Below.refl _ _)⟩
          case round =>
            obtain ⟨i, Z, rfl, rfl, hi, HZ, HBW⟩ := hrel
            have hzl : Z.length ≤ 1200 := by rw [HZ.out]; exact moText_len HS9.out HN8.out HNL.out i
            by_cases hlt : i < n
            · have hii : (i : Int) < (n : Int) := by omega
              have q1 : decide ((i : Int) < (n : Int)) = true := decide_eq_true hii
              have q2 : decide (i < n) = true := decide_eq_true hlt
              have HLT := Lib.hid hlt
              obtain ⟨x, rfl⟩ : ∃ x, a = some x := by
                cases a with
                | none => have := HM.out.own.of_none.1; rw [← HN.out] at this; omega
                | some x => exact ⟨x, rfl⟩
              obtain ⟨gb, rfl⟩ : ∃ gb, x = ⟨gb, 0, none⟩ := ⟨x.block, HM.out.own.row.1⟩
              obtain ⟨t, r, hdr⟩ := Tm.drop_some tys i (by rw [← HN.out]; exact hlt)
              have hmem : t ∈ tys := by
                have : t ∈ tys.drop i := by rw [hdr]; simp
                exact List.mem_of_mem_drop this
              have hgt : tys[i]? = some t := by
                have := List.getElem?_drop (xs := tys) (i := i) (j := 0)
                rw [hdr] at this
                simpa using this.symm
              obtain ⟨ga, capb, bs, _, _, g3, _⟩ := Tm.EncT.ty HM.out.own HM.out.enc hdr
              have hrow := g3.below HBW.out g3.lt
              have c0 := hrow.cell 0 (by simp)
              simp only [List.getElem_cons_zero, Nat.add_zero] at c0
              have hglt := hrow.lt
              have hnl := HNL.out t hmem
              have HSN := Lib.hid (moText_snoc (s := s) hgt (by rw [← HN.out]; exact hlt))
              have hd := HDC.out i (by have := HN7.out; omega)
              have hdl : (Num.dec i).length ≤ 1 := by
                have h3 : ∀ i, i < 8 → (Num.dec i).length ≤ 1 := by decide
                exact h3 i (by have := HN7.out; omega)
              obtain ⟨nm, hnm⟩ : ∃ nm, nm = t.name := ⟨_, rfl⟩
              rw [← hnm] at c0 hnl HSN
              generalize Num.dec i = D at *
              have z1 : ¬ 9223372036854775807 < nm.length + 3 := by omega
              have z2 : ¬ 9223372036854775807 < nm.length + 3 + D.length := by omega
              have z3 : ¬ 9223372036854775807 < nm.length + 3 + D.length + 5 := by omega
              have z4 : ¬ 9223372036854775807 < Z.length + (nm.length + 3 + D.length + 5) := by omega
              have HS0 := Lib.hid (show wr.cell? ⟨gb, i * 3, none⟩ = some (.string (bstr nm)) ∧ Below wr.heap.size wr wr from ⟨c0, Below.refl _ _⟩)
              have hcall : ∀ V : World, (V.cell? ⟨gb, i * 3, none⟩ = some (.string (bstr nm)) ∧ Below wr.heap.size wr V) → Calls Tryz.prog 10 #[.int .i64 (i : Nat)] V fun e V' => e = .returned (.string (bstr D)) ∧ (V'.cell? ⟨gb, i * 3, none⟩ = some (.string (bstr nm)) ∧ Below wr.heap.size wr V') :=
                fun V h => (hd V).mono fun e V' ⟨h1, hb⟩ => ⟨h1, (hb.cell (p := ⟨gb, i * 3, none⟩) (Nat.lt_of_lt_of_le hglt h.2.size)).trans h.1, h.2.trans (hb.mono h.2.size)⟩
              have HCL := Lib.hid hcall
              clear hmem hgt g3 hrow c0 hglt hnl hd hdl hnm hcall hdr hzl hlt
              go_wp2_with fail
              go_region_held3 (fun V => V.cell? ⟨gb, i * 3, none⟩ = some (.string (bstr nm)) ∧ Below wr.heap.size wr V)
                (first
                  | exact HS0.out
                  | exact ⟨HS0.out.1, HS0.out.2.drew⟩
                  | assumption
                  | exact ⟨hS9.1, hS9.2.drew⟩)
                (first
                  | (go_at_call 10; (with_reducible refine (HCL.out _ ?_).mono ?_); (next => (first | assumption | exact HS0.out | exact ⟨HS0.out.1, HS0.out.2.drew⟩)); (rintro e w9 ⟨rfl, hS9⟩)))
              all_goals
                have HB9 := Lib.hid (HBW.out.trans (hS9.2.mono HBW.out.size))
                clear hS9
                go_wp2_with fail
                go_roundw
                case rel => exact ⟨i + 1, _, by go_num, by rw [mo_line], by have := HLT.out; omega, Lib.hid (by rw [HZ.out]; exact HSN.out), HB9⟩
                case measure => simp [intOf]; have := HLT.out; omega
            · obtain rfl : i = n := by omega
              have hd : decide ((i : Int) < (i : Int)) = false := by simp
              have hd2 : decide (i < i) = false := by simp
              have z1 : ¬ 9223372036854775807 < Z.length + 2 := by omega
              have hz3 : (Z ++ [125, 10]).length ≤ 3000 := by rw [List.length_append]; simp only [List.length_cons, List.length_nil]; omega
              have HZ3 := Lib.hid hz3
              have HBR := Lib.hid (HB2.out.trans (HBW.out.mono HB2.out.size))
              have HM4 := Lib.hid (HM.out.up HBW.out)
              have hpp := parse_read (Z ++ [125, 10]) wr hz3 (HB.out.up HBR.out)
              rw [← mo_end] at hpp
              have HPP := Lib.hid hpp
              obtain ⟨T, hT1, hT2⟩ := HM.out.rd
              obtain ⟨_, hT4, _⟩ := toks_lex HS3.out hT1
              obtain ⟨S, l, g1, g2, g3⟩ := Tm.more_read hT1 hT2 hT4 (by rw [← HN.out]; exact HN7.out) HNZ.out
              rw [← moText_end, ← HN.out, ← HZ.out] at g1 g2
              have HRL := Lib.hid (show ReadT (Z ++ [125, 10]) l from ⟨S, g1, g2⟩)
              have HCK := Lib.hid g3
              clear hz3 g1 g2 g3 hT1 hT2 hT4 hpp hzl
              go_wp2_with fail
              refine HPP.out.mono ?_
              rintro e w5 ⟨hb5, ⟨tys2, a2, cap2, vs2, hm2, rfl⟩ | ⟨hno, _⟩⟩
              · obtain rfl := hm2.rd.det HRL.out
                have HB5 := Lib.hid (HBR.out.trans (hb5.mono HBR.out.size))
                have HM5 := Lib.hid (HM4.out.up hb5)
                have hc2 := check_read hm2 HZ3.out
                rw [HCK.out] at hc2
                unfold CheckOut at hc2
                have hc1 := fun W (h : Below w5.heap.size w5 W) => check_read (w := W) (HM5.out.up h) HS3.out
                rw [← HN.out] at hc1
                unfold CheckOut at hc1
                obtain ⟨n2, hn2⟩ : ∃ n2, n2 = tys2.length := ⟨_, rfl⟩
                rw [← hn2] at hc2 ⊢
                obtain ⟨o, ho⟩ : ∃ o, o = Tm.chk [] tys := ⟨_, rfl⟩
                rw [← ho] at hc1 hc2
                have HC1 := Lib.hid hc1; have HC2 := Lib.hid hc2
                have HER := Lib.hid (fun W (h : Below w.heap.size w W) => (HB.out.up h).env.er)
                clear hb5 hm2 hc1 hc2 hn2 ho HPP
                cases o with
                | none =>
                  go_wp2_with fail
                  refine HC2.out.mono ?_
                  rintro e w6 ⟨hb6, rfl⟩
                  have HB6 := Lib.hid (HB5.out.trans (hb6.mono HB5.out.size))
                  have HU6 := Lib.hid hb6
                  clear hb6
                  go_wp2_with fail
                  refine (Tell_nil w6).mono ?_
                  rintro e w7 ⟨rfl, rfl⟩
                  go_wp2_with fail
                  refine (HC1.out w7 HU6.out).mono ?_
                  rintro e w8 ⟨hb8, rfl⟩
                  have HB8 := Lib.hid (HB6.out.trans (hb8.mono HB6.out.size))
                  clear hb8
                  go_wp2_with fail
                  refine (Tell_nil w8).mono ?_
                  rintro e w9 ⟨rfl, rfl⟩
                  go_wp2_with fail
                  go_ret
                  exact ⟨rfl, HB8.out⟩
                | some en =>
                  go_wp2_with fail
                  refine HC2.out.mono ?_
                  rintro e w6 ⟨hb6, g6, p6, rfl, hr6⟩
                  have HB6 := Lib.hid (HB5.out.trans (hb6.mono HB5.out.size))
                  have HU6 := Lib.hid hb6
                  have HT6 := Lib.hid (Tell_err (.inr ⟨g6, p6, rfl, hr6⟩) (HER.out w6 HB6.out))
                  clear hb6 hr6
                  go_wp2_with fail
                  refine HT6.out.mono ?_
                  rintro e w7 ⟨rfl, hb7⟩
                  have HB7 := Lib.hid (HB6.out.trans (hb7.mono HB6.out.size))
                  have HU7 := Lib.hid (HU6.out.trans (hb7.mono HU6.out.size))
                  clear hb7
                  go_wp2_with fail
                  refine (HC1.out w7 HU7.out).mono ?_
                  rintro e w8 ⟨hb8, g8, p8, rfl, hr8⟩
                  have HB8 := Lib.hid (HB7.out.trans (hb8.mono HB7.out.size))
                  have HT8 := Lib.hid (Tell_err (.inr ⟨g8, p8, rfl, hr8⟩) (HER.out w8 HB8.out))
                  clear hb8 hr8
                  go_wp2_with fail
                  refine HT8.out.mono ?_
                  rintro e w9 ⟨rfl, hb9⟩
                  have HB9 := Lib.hid (HB8.out.trans (hb9.mono HB8.out.size))
                  clear hb9
                  go_wp2_with fail
                  go_ret
                  exact ⟨rfl, HB9.out⟩
              · exact absurd HRL.out (hno l)
    · have HB2 := Lib.hid (HB1.out.trans (hb2.mono HB1.out.size))
      clear hb2 hno HPS
      go_wp2_with fail
      go_ret
      exact ⟨rfl, HB2.out⟩
theorem TypesMore_walk (s : ByteArray) (hs : s.size ≤ 140737488351232) (w : World) (hB : Base w) (hsh : w.ShapedOpen Tryz.prog) :
    Calls Tryz.prog 3 #[.string s] w fun e w' => e = .returned (.bool true) ∧ Below w.heap.size w w' := by
  obtain ⟨l, rfl⟩ : ∃ l, s = bstr l := ⟨_, eq_bstr s⟩
  exact TypesMore_in l w hB hsh
end Go.Proofs.YtlpkebngehmimaaGreatDoor
end
