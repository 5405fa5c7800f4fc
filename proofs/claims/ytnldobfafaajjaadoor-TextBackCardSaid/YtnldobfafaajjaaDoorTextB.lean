/- text.Decode. -/
import Derived.Test.YtnldobfafaajjaaDoorTextA
import Derived.Test.YtnldobfafaajjaaDoorInfo
namespace Go.Proofs.YtnldobfafaajjaaDoor
open Go.RowKit Go.Shelf
set_option linter.unusedVariables false
set_option linter.unusedSimpArgs false
attribute [local go_sem] Oper.semAt_some
theorem bstr_get0 (l : List UInt8) (k : Nat) : (bstr l).get! k = l.getD k 0 := by
  show (bstr l).data[k]! = _
  rw [List.getD_eq_getElem?_getD]
  show (l.toArray)[k]! = _
  rw [Array.getElem!_eq_getD, Array.getD_eq_getD_getElem?, List.getElem?_toArray]
  rfl
theorem decodeGo_eq (l : List UInt8) (h : l ≠ []) : Lib.decodeGo (bstr l) = Txt.dec1 l := by
  have hs : (bstr l).size = l.length := bstr_size l
  have h0 : ¬ (bstr l).size = 0 := by rw [hs]; intro h1; exact h (List.eq_nil_of_length_eq_zero h1)
  unfold Lib.decodeGo
  rw [if_neg h0, Lib.decode_at, hs]
  simp only [bstr_get0, Nat.sub_zero, Nat.zero_add]
  rfl
theorem bstr_cutT (l : List UInt8) (i j : Nat) : (bstr l).extract i j = bstr ((l.drop i).take (j - i)) := by
  apply ByteArray.ext
  apply Array.ext'
  rw [ByteArray.data_extract, Array.toList_extract]
  rfl
theorem bstr_tail (l : List UInt8) (i : Nat) : (bstr l).extract i l.length = bstr (l.drop i) := by
  rw [bstr_cutT, List.take_of_length_le (by rw [List.length_drop]; exact Nat.le_refl _)]
theorem infoTx : (Tryd.prog.info? 3).map (fun i => (i.zero, i.size, i.bytes)) = some (some (.int .i64 0), 1, 8) := by kernel_rfl
/-- where signs and sizes lie -/
structure DS (w : World) (l : List UInt8) (i : Nat) (pre : List (Nat × Nat)) (a1 : Option Addr) (c1 : Nat) (a2 : Option Addr) (c2 : Nat) (wr : World) : Prop where
  s : Txt.sgn l = pre ++ Txt.sgn (l.drop i)
  o1 : Owns wr w.heap.size 3 1 a1 pre.length c1 (nvals .i64 (pre.map (·.1)))
  o2 : Owns wr w.heap.size 3 1 a2 pre.length c2 (nvals .i64 (pre.map (·.2)))
  ap : ∀ x y, a1 = some x → a2 = some y → x.block ≠ y.block
  bel : Below w.heap.size w wr
theorem DS.below {w : World} {l : List UInt8} {i : Nat} {pre : List (Nat × Nat)} {a1 : Option Addr} {c1 : Nat} {a2 : Option Addr} {c2 : Nat} {wr w2 : World} (h : DS w l i pre a1 c1 a2 c2 wr) (hb : Below wr.heap.size wr w2) : DS w l i pre a1 c1 a2 c2 w2 :=
  ⟨h.s, h.o1.below hb (Nat.le_refl _), h.o2.below hb (Nat.le_refl _), h.ap, h.bel.trans (hb.mono h.bel.size)⟩
theorem nvals_snoc' (k : IntKind) (L : List Nat) (n : Nat) : nvals k L ++ [.int k (n : Nat)] = nvals k (L ++ [n]) := by simp [nvals]
theorem ne_blk {a b : Option Addr} (h : ∀ x y, a = some x → b = some y → x.block ≠ y.block) : ∀ y, b = some y → some y.block ≠ blk a := by
  intro y hy e
  cases ha : a with
  | none => rw [ha] at e; cases e
  | some x =>
    rw [ha] at e
    have : y.block = x.block := Option.some.inj e
    exact h x y ha hy this.symm
theorem DS.mid {w : World} {l : List UInt8} {i : Nat} {pre : List (Nat × Nat)} {a1 : Option Addr} {c1 : Nat} {a2 : Option Addr} {c2 : Nat} {w1 w2 : World} (h : DS w l i pre a1 c1 a2 c2 w1) (hg : w1.grownBy w2 (blk a1)) :
    Owns w2 w.heap.size 3 1 a2 pre.length c2 (nvals .i64 (pre.map (·.2))) := h.o2.grown hg (ne_blk h.ap)
theorem DS.push {w : World} {l : List UInt8} {i : Nat} {pre : List (Nat × Nat)} {a1 : Option Addr} {c1 : Nat} {a2 : Option Addr} {c2 : Nat} {w1 w2 w3 : World} {r n : Nat} {b1 b2 : Option Addr} {d1 d2 : Nat} (h : DS w l i pre a1 c1 a2 c2 w1)
    (hs : Txt.sgn (l.drop i) = (r, n) :: Txt.sgn (l.drop (i + n))) (ho1 : Owns w2 w.heap.size 3 1 b1 (pre.length + 1) d1 (nvals .i64 (pre.map (·.1)) ++ [.int .i64 (r : Nat)])) (hg1 : w1.grownBy w2 (blk a1)) (hl1 : ∀ x, b1 = some x → a1 = some x ∨ w1.heap.size < x.block)
    (ho2 : Owns w3 w.heap.size 3 1 b2 (pre.length + 1) d2 (nvals .i64 (pre.map (·.2)) ++ [.int .i64 (n : Nat)])) (hg2 : w2.grownBy w3 (blk a2)) (hl2 : ∀ x, b2 = some x → a2 = some x ∨ w2.heap.size < x.block) :
    DS w l (i + n) (pre ++ [(r, n)]) b1 d1 b2 d2 w3 := by
  have ap1 : ∀ x y, b1 = some x → a2 = some y → x.block ≠ y.block := by
    intro x y hx hy
    rcases hl1 x hx with h1 | h1
    · exact h.ap x y h1 hy
    · have := h.o2.blk_lt y hy
      omega
  have ho1' := ho1.grown hg2 (ne_blk fun x y hx hy => (ap1 y x hy hx).symm)
  refine ⟨by rw [h.s, hs, List.append_assoc]; rfl, ?_, ?_, ?_, ?_⟩
  · rw [List.length_append, List.length_singleton, List.map_append, List.map_cons, List.map_nil, ← nvals_snoc']; exact ho1'
  · rw [List.length_append, List.length_singleton, List.map_append, List.map_cons, List.map_nil, ← nvals_snoc']; exact ho2
  · intro x y hx hy
    rcases hl2 y hy with h1 | h1
    · exact ap1 x y hx h1
    · have := ho1.blk_lt x hx
      omega
  · have hb1 := below_blk h.bel h.o1 (Nat.le_refl _) h.bel.size hg1
    exact below_blk hb1 (h.mid hg1) (Nat.le_refl _) hb1.size hg2
theorem i64_in' (x : Int) (h : -9223372036854775808 ≤ x) (h' : x ≤ 9223372036854775807) : IntKind.i64.wrap x = x := by rw [IntKind.wrap_i64]; omega
open Txt in
set_option maxRecDepth 100000 in
set_option maxHeartbeats 4000000 in
theorem Decode_any (l : List UInt8) (h9 : l.length ≤ 100000) (w : World) (hT : Lib.Utf8Tabs 3 4 w) :
    Calls Tryd.prog 17 #[.string (bstr l)] w fun e w' => ∃ a1 c1 a2 c2, e = .returned (.tuple #[.slice a1 (sgn l).length c1, .slice a2 (sgn l).length c2]) ∧ DS w l l.length (sgn l) a1 c1 a2 c2 w' := by
  have HT := Lib.hid hT; clear hT
  go_enter Tryd.func17, Tryd.ntmps17
  go_wp2_with fail
  go_loopw [2, 3, 4] (fun v2 v3 v4 wr => ∃ (i : Nat) (pre : List (Nat × Nat)) (a1 : Option Addr) (c1 : Nat) (a2 : Option Addr) (c2 : Nat), i ≤ l.length ∧ pre.length ≤ i ∧ v4 = .int .i64 i ∧ v2 = .slice a1 pre.length c1 ∧ v3 = .slice a2 pre.length c2 ∧ Hid (DS w l i pre a1 c1 a2 c2 wr)) (fun _ _ v4 _ => l.length - (intOf v4).toNat)
  case atStart => exact ⟨0, [], none, 0, none, 0, by omega, Nat.le_refl _, rfl, rfl, rfl, Lib.hid ⟨rfl, Owns.nil _ _ _ _, Owns.nil _ _ _ _, fun x y h _ => (by cases h), Below.refl _ _⟩⟩
  case round =>
    obtain ⟨i, pre, a1, c1, a2, c2, hil, hpi, rfl, rfl, rfl, HD⟩ := hrel
    by_cases hlt : i < l.length
    · have hli : (i : Int) < (l.length : Int) := by omega
      have hext := bstr_tail l i
      have hne : l.drop i ≠ [] := by
        intro h
        have := congrArg List.length h
        rw [List.length_drop, List.length_nil] at this; omega
      have hsl := step_len _ hne
      rw [List.length_drop] at hsl
      have his := step_is (l.drop i)
      have hdr := fun W (h : Lib.Utf8Tabs 3 4 W) => Tryd.utf8_DecodeRuneInString (bstr (l.drop i)) W h
      rw [decodeGo_eq _ hne] at hdr
      have hbg := fun W => begun_any (l.drop i) hne (by rw [List.length_drop]; omega) W
      have hsc := sgn_cons _ hne
      rw [List.drop_drop] at hsc
      have hst : Txt.step (l.drop i) = if dec1 (l.drop i) = (65533, 1) then (65533, beg (l.drop i)) else dec1 (l.drop i) := rfl
      have hdl := dec1_len _ hne
      rw [List.length_drop] at hdl
      generalize Txt.step (l.drop i) = st at *
      generalize dec1 (l.drop i) = dc at *
      generalize beg (l.drop i) = bg at *
      have HSC := Lib.hid hsc; have HDR := Lib.hid hdr; have HBG := Lib.hid hbg
      clear hsc hdr hbg hne
      obtain ⟨r, n⟩ := dc
      obtain ⟨sr, sn⟩ := st
      simp only at hdl hsl his
      have HST := Lib.hid hst; clear hst
      go_wp2_with fail
      refine (HDR.out _ (Utf8Tabs_below HT.out HD.out.bel)).mono ?_
      rintro e w1 ⟨rfl, hb1⟩
      have HD2 := Lib.hid (HD.out.below hb1)
      clear HD hb1
      by_cases hr : r = 65533
      · have t1 : ((r : Int) == 65533) = true := by rw [beq_iff_eq]; omega
        by_cases hn : n = 1
        · have t2 : ((n : Int) == 1) = true := by rw [beq_iff_eq]; omega
          obtain ⟨e1, e2⟩ : sr = r ∧ sn = bg := by
            have := HST.out
            rw [hr, hn, if_pos rfl] at this
            exact ⟨by rw [hr]; exact (Prod.mk.inj this).1, (Prod.mk.inj this).2⟩
          subst e1; subst e2
          have HR := Lib.hid hr; have HN := Lib.hid hn
          clear hr hn HST
          go_wp2_with fail
          refine (HBG.out _).mono ?_
          rintro e w2 ⟨rfl, rfl⟩
          have hby : (pre.length + 1) * 8 ≤ 140737488355328 := by omega
          have hml : pre.length + 1 ≤ maxLen := by unfold maxLen; omega
          have hB1 := HD2.out.bel.size
          have hri : IntKind.i64.wrap (sr : Int) = (sr : Int) := i64_in' _ (by omega) (by omega)
          go_wp2_with (first
            | (with_reducible refine wpList_push _ rfl _ _ 36 rfl w.heap.size 3 (.int .i64 0) 1 8 Tryd.underlying36 infoTx rfl (by decide) a1 pre.length c1 _ rfl HD2.out.o1 [.int .i64 (sr : Nat)] rfl (by simp [Value.oneCell']) rfl hml hby hB1 ?_; intro b1 d1 w4 hown1 hgrow1 hloc1 hsz1 hex1; have hB2 : w.heap.size ≤ w4.heap.size := (by omega); have hmid := HD2.out.mid hgrow1)
            | (with_reducible refine wpList_push _ rfl _ _ 36 rfl w.heap.size 3 (.int .i64 0) 1 8 Tryd.underlying36 infoTx rfl (by decide) a2 pre.length c2 _ rfl hmid [.int .i64 (sn : Nat)] rfl (by simp [Value.oneCell']) rfl hml hby hB2 ?_; intro b2 d2 w5 hown2 hgrow2 hloc2 hsz2 hex2))
          have hfin := HD2.out.push HSC.out hown1 hgrow1 hloc1 hown2 hgrow2 hloc2
          have HF := Lib.hid hfin
          clear hfin hown1 hgrow1 hloc1 hown2 hgrow2 hloc2 hmid hex1 hex2
          go_roundw
          case rel => exact ⟨i + sn, pre ++ [(sr, sn)], b1, d1, b2, d2, by omega, by rw [List.length_append, List.length_singleton]; omega, by go_num, by rw [List.length_append, List.length_singleton], by rw [List.length_append, List.length_singleton], HF⟩
          case measure => simp [intOf]; omega
        · have t2 : ((n : Int) == 1) = false := by rw [beq_eq_false_iff_ne]; omega
          obtain ⟨e1, e2⟩ : sr = r ∧ sn = n := by
            have := HST.out
            rw [if_neg (fun h => hn (Prod.mk.inj h).2)] at this
            exact Prod.mk.inj this
          subst e1; subst e2
          have HR := Lib.hid hr; have HN := Lib.hid hn
          clear hr hn HST
          have hby : (pre.length + 1) * 8 ≤ 140737488355328 := by omega
          have hml : pre.length + 1 ≤ maxLen := by unfold maxLen; omega
          have hB1 := HD2.out.bel.size
          have hri : IntKind.i64.wrap (sr : Int) = (sr : Int) := i64_in' _ (by omega) (by omega)
          go_wp2_with (first
            | (with_reducible refine wpList_push _ rfl _ _ 36 rfl w.heap.size 3 (.int .i64 0) 1 8 Tryd.underlying36 infoTx rfl (by decide) a1 pre.length c1 _ rfl HD2.out.o1 [.int .i64 (sr : Nat)] rfl (by simp [Value.oneCell']) rfl hml hby hB1 ?_; intro b1 d1 w4 hown1 hgrow1 hloc1 hsz1 hex1; have hB2 : w.heap.size ≤ w4.heap.size := (by omega); have hmid := HD2.out.mid hgrow1)
            | (with_reducible refine wpList_push _ rfl _ _ 36 rfl w.heap.size 3 (.int .i64 0) 1 8 Tryd.underlying36 infoTx rfl (by decide) a2 pre.length c2 _ rfl hmid [.int .i64 (sn : Nat)] rfl (by simp [Value.oneCell']) rfl hml hby hB2 ?_; intro b2 d2 w5 hown2 hgrow2 hloc2 hsz2 hex2))
          have hfin := HD2.out.push HSC.out hown1 hgrow1 hloc1 hown2 hgrow2 hloc2
          have HF := Lib.hid hfin
          clear hfin hown1 hgrow1 hloc1 hown2 hgrow2 hloc2 hmid hex1 hex2
          go_roundw
          case rel => exact ⟨i + sn, pre ++ [(sr, sn)], b1, d1, b2, d2, by omega, by rw [List.length_append, List.length_singleton]; omega, by go_num, by rw [List.length_append, List.length_singleton], by rw [List.length_append, List.length_singleton], HF⟩
          case measure => simp [intOf]; omega
      · have t1 : ((r : Int) == 65533) = false := by rw [beq_eq_false_iff_ne]; omega
        obtain ⟨e1, e2⟩ : sr = r ∧ sn = n := by
          have := HST.out
          rw [if_neg (fun h => hr (Prod.mk.inj h).1)] at this
          exact Prod.mk.inj this
        subst e1; subst e2
        have HR := Lib.hid hr
        clear hr HST
        have hby : (pre.length + 1) * 8 ≤ 140737488355328 := by omega
        have hml : pre.length + 1 ≤ maxLen := by unfold maxLen; omega
        have hB1 := HD2.out.bel.size
        have hri : IntKind.i64.wrap (sr : Int) = (sr : Int) := i64_in' _ (by omega) (by omega)
        go_wp2_with (first
          | (with_reducible refine wpList_push _ rfl _ _ 36 rfl w.heap.size 3 (.int .i64 0) 1 8 Tryd.underlying36 infoTx rfl (by decide) a1 pre.length c1 _ rfl HD2.out.o1 [.int .i64 (sr : Nat)] rfl (by simp [Value.oneCell']) rfl hml hby hB1 ?_; intro b1 d1 w4 hown1 hgrow1 hloc1 hsz1 hex1; have hB2 : w.heap.size ≤ w4.heap.size := (by omega); have hmid := HD2.out.mid hgrow1)
          | (with_reducible refine wpList_push _ rfl _ _ 36 rfl w.heap.size 3 (.int .i64 0) 1 8 Tryd.underlying36 infoTx rfl (by decide) a2 pre.length c2 _ rfl hmid [.int .i64 (sn : Nat)] rfl (by simp [Value.oneCell']) rfl hml hby hB2 ?_; intro b2 d2 w5 hown2 hgrow2 hloc2 hsz2 hex2))
        have hfin := HD2.out.push HSC.out hown1 hgrow1 hloc1 hown2 hgrow2 hloc2
        have HF := Lib.hid hfin
        clear hfin hown1 hgrow1 hloc1 hown2 hgrow2 hloc2 hmid hex1 hex2
        go_roundw
        case rel => exact ⟨i + sn, pre ++ [(sr, sn)], b1, d1, b2, d2, by omega, by rw [List.length_append, List.length_singleton]; omega, by go_num, by rw [List.length_append, List.length_singleton], by rw [List.length_append, List.length_singleton], HF⟩
        case measure => simp [intOf]; omega
    · obtain rfl : i = l.length := by omega
      have hd : decide ((l.length : Int) < (l.length : Int)) = false := by simp
      have hfin : pre = sgn l := by
        have := HD.out.s
        rw [List.drop_length, sgn_nil, List.append_nil] at this
        exact this.symm
      have HF := Lib.hid hfin
      clear hfin
      go_wp2_with fail
      go_ret2
      refine ⟨a1, c1, a2, c2, by rw [← HF.out]; rfl, by rw [← HF.out]; exact HD.out⟩
end Go.Proofs.YtnldobfafaajjaaDoor
