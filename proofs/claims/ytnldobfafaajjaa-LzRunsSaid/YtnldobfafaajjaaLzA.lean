/- Contract of package lz: Unpack. -/
import Derived.Test.YtnldobfafaajjaaChecked
import Derived.Test.YtnldobfafaajjaaOwn
import Derived.Test.YtnldobfafaajjaaInfo
import Derived.Test.YtnldobfafaajjaaPlainLz
import Derived.Lib.AppendStr
namespace Go.Proofs.Ytnldobfafaajjaa
open Go.RowKit
set_option linter.unusedVariables false
set_option linter.unusedSimpArgs false
/-- append of a string to a slice of bytes of the call's own -/
theorem wpList_pushS {P : Program} (w : World) {ops : Array Oper} {rest : List Oper} {o : Oper} {act : Act} {Q : Exit → Act → World → Prop} (hgd : o.guard = none) (s x : Operand) (t u : TypeId)
    (ho : o.op = .call { callee := .builtin .append, args := #[s, x], argTypes := #[t, u] })
    (B : Nat) (e : TypeId) (ht : P.underlying t = some (.slice e)) (hu : P.underlying u = some .string) (hinf : (P.info? e).map (fun i => (i.zero, i.size, i.bytes)) = some (some (.int .u8 0), 1, 1))
    (a : Option Addr) (n cap : Nat) (l : List UInt8) (hs : act.eval s = .slice a n cap) (hown : Owns w B e 1 a n cap (bvals l))
    (sx : ByteArray) (hx : act.eval x = .string sx) (m : List UInt8) (hm : sx = bstr m) (hsz : n + m.length ≤ 1000000) (hbase : B ≤ w.heap.size)
    (h : ∀ a' cap' w', Owns w' B e 1 a' (n + m.length) cap' (bvals (l ++ m)) → w.grownBy w' (blk a) → wpList P ops Q rest (act.put o.dst (.slice a' (n + m.length) cap')) w') :
    wpList P ops Q (o :: rest) act w := by
  obtain ⟨i, hi, hz, hsize, hby⟩ := info_parts hinf
  subst hm
  refine Lib.wpList_append_own_string w hgd s x t u ho B e i ht hu hi hz hsize hby (.slice a n cap) n (bvals l) hs hown (bstr m) hx (by rw [bstr_size]; unfold maxLen; omega) (by rw [bstr_size]; omega) hbase ?_
  intro v' w' hown' hgrow hnil
  rw [bstr_size] at hown' hnil
  have hc : bvals l ++ Lib.strCells (bstr m) = bvals (l ++ m) := by simp [bvals, Lib.strCells, bval, bstr]
  rw [hc] at hown'
  rw [ownBlock_eq] at hgrow
  rcases hown'.2 with ⟨h1, h2⟩ | ⟨g, cap', cur, h1, h2⟩
  · subst h1
    rw [show (0 : Nat) = n + m.length from h2.symm] at hown' ⊢
    exact h none _ w' hown' hgrow
  · subst h1
    exact h _ cap' w' hown' hgrow
set_option maxRecDepth 100000 in
set_option maxHeartbeats 1000000 in
theorem Unpack_any (toks : List Lz.Tok) (t : List UInt8) (w : World) (ht : Lz.Tells toks t) (hl : t.length ≤ 4000) (hb : (Lz.bytes toks).length ≤ 100000) :
    Calls Try.prog 27 #[.string (bstr (Lz.bytes toks))] w fun e w' => e = .returned (.tuple #[.string (bstr t), .nilIface]) ∧ Below w.heap.size w w' := by
  obtain ⟨p, hp⟩ : ∃ p, p = Lz.bytes toks := ⟨_, rfl⟩
  rw [← hp] at hb ⊢
  have HP := Lib.hid hp; clear hp
  have HT := Lib.hid ht; clear ht
  obtain ⟨B, hB⟩ : ∃ B, B = w.heap.size := ⟨_, rfl⟩
  rw [← hB]
  have HB := Lib.hid hB; clear hB
  go_enter Try.func27, Try.ntmps27
  go_wp2_with fail
  go_loopw [4, 5] (fun o i wr => ∃ (q : Nat) (u : List UInt8) (a : Option Addr) (cap : Nat), q ≤ toks.length ∧ o = .slice a u.length cap ∧ i = .int .i64 ((Lz.bytes (toks.take q)).length : Int) ∧ Hid (Lz.Tells (toks.take q) u) ∧ Hid (Owns wr B 5 1 a u.length cap (bvals u)) ∧ Hid (Below B w wr)) (fun _ i _ => p.length - (intOf i).toNat)
  case atStart => exact ⟨0, [], none, 0, Nat.zero_le _, rfl, rfl, Lib.hid .nil, Lib.hid (Owns.nil _ _ _ _), Lib.hid (Below.refl _ _)⟩
  case round =>
    obtain ⟨q, u, a, cap, hq, rfl, rfl, HU, HO, HBW⟩ := hrel
    by_cases hlt : q < toks.length
    · obtain ⟨u2, hu2, k, hk, hok, hu3⟩ := Lz.Tells.take HT.out q hlt
      obtain rfl : u = u2 := HU.out.eq.trans hu2.eq.symm
      have hpb := Lz.bytes_at toks q k hk
      rw [← HP.out] at hpb
      have htb := Lz.bytes_take toks q k hk
      have hlen4 : (k.text u).length ≤ 4000 := by
        rw [hu3.eq]
        have := Lz.textOf_take toks (q + 1)
        rw [← HT.out.eq] at this
        omega
      have HTB : Hid ((Lz.bytes (toks.take (q + 1))).length = (Lz.bytes (toks.take q)).length + k.bytes.length) := Lib.hid (by rw [htb, List.length_append])
      clear htb
      generalize Lz.bytes (toks.take q) = pre at *
      generalize Lz.bytes (toks.drop (q + 1)) = post at *
      have HU3 := Lib.hid hu3; clear hu3 hu2
      have HK := Lib.hid hk; clear hk
      have hpl : p.length = pre.length + (k.bytes.length + post.length) := by rw [hpb, List.length_append, List.length_append]
      have HPB := Lib.hid hpb; clear hpb
      have HPL := Lib.hid hpl
      cases k with
      | plain pl =>
        obtain ⟨g1, g2⟩ := hok
        have hkl : (Lz.Tok.plain pl).bytes.length = pl.length + 1 := by simp [Lz.Tok.bytes]
        have htl : ((Lz.Tok.plain pl).text u).length = u.length + pl.length := by simp [Lz.Tok.text]
        rw [hkl] at hpl HTB
        have hle1 : pre.length + 1 + pl.length ≤ p.length := by omega
        have hle1i : (pre.length : Int) + 1 + (pl.length : Int) ≤ (p.length : Int) := by omega
        clear hpl
        rw [htl] at hlen4
        have h0 : ∀ h : pre.length < (bstr p).size, ((bstr p)[pre.length]'h).toNat = pl.length - 1 := by
          intro h
          have : p[pre.length]? = some (UInt8.ofNat (pl.length - 1)) := by
            rw [HPB.out, List.getElem?_append_right (Nat.le_refl _), Nat.sub_self]; rfl
          have h9 : p[pre.length]'(by simpa [bstr_size] using h) = UInt8.ofNat (pl.length - 1) := by
            rw [List.getElem?_eq_getElem (by simpa [bstr_size] using h)] at this; injection this
          show (p[pre.length]'(by simpa [bstr_size] using h)).toNat = _
          rw [h9, UInt8.toNat_ofNat']
          omega
        have hi1 : (pre.length : Int) < (p.length : Int) := by omega
        have hcast : ((pl.length - 1 : Nat) : Int) = (pl.length : Int) - 1 := by omega
        have hext : (bstr p).extract (pre.length + 1) (pre.length + 1 + pl.length) = bstr pl := by
          apply ByteArray.ext
          apply Array.ext'
          rw [ByteArray.data_extract, Array.toList_extract]
          show (p.drop (pre.length + 1)).take _ = pl
          rw [HPB.out, ← List.append_assoc, Lz.Tok.bytes]
          rw [List.drop_append_of_le_length (by simp)]
          simp
        have hBz : B ≤ wr.heap.size := by rw [HB.out]; exact HBW.out.size
        clear hkl htl
        go_wp2_with (with_reducible refine wpList_pushS _ rfl (.tmp 27) (.tmp 35) 51 9 rfl B 5 Try.underlying51 Try.underlying9 infoU8 a u.length cap u rfl HO.out _ rfl pl hext (by omega) hBz ?_; intro a' cap' w' hown' hgrow)
        have hHBW : Below B w w' := HBW.out.grown hgrow hBz fun j hj => by
          cases a with
          | none => simp [blk] at hj
          | some y => have := HO.out.lt; simp [blk] at hj; omega
        have HBW' := Lib.hid hHBW; clear hHBW
        have HO' := Lib.hid hown'; clear hown' hgrow
        go_roundw
        case rel => exact ⟨q + 1, u ++ pl, a', cap', by omega, by rw [List.length_append], by rw [HTB.out]; go_num, HU3, Lib.hid (by rw [List.length_append]; exact HO'.out), HBW'⟩
        case measure => simp [intOf]; omega
      | back bk n =>
        obtain ⟨g1, g2, g3, g4, g5⟩ := hok
        have hkl : (Lz.Tok.back bk n).bytes.length = 3 := rfl
        have htl : ((Lz.Tok.back bk n).text u).length = u.length + n := Lz.copy_length _ _ _
        rw [hkl] at hpl HTB
        rw [htl] at hlen4
        have hle1 : pre.length + 3 ≤ p.length := by omega
        have hle1i : (pre.length : Int) + 3 ≤ (p.length : Int) := by omega
        clear hpl
        have hpg : p[pre.length]? = some (UInt8.ofNat (128 + n - 3)) ∧ p[pre.length + 1]? = some (UInt8.ofNat (bk / 256)) ∧ p[pre.length + 2]? = some (UInt8.ofNat (bk % 256)) := by
          rw [HPB.out]
          refine ⟨?_, ?_, ?_⟩
          · rw [List.getElem?_append_right (Nat.le_refl _), Nat.sub_self]; rfl
          · rw [List.getElem?_append_right (by omega), Nat.add_sub_cancel_left]; rfl
          · rw [List.getElem?_append_right (by omega), Nat.add_sub_cancel_left]; rfl
        have key : ∀ (i : Nat) (c : Nat), c < 256 → p[i]? = some (UInt8.ofNat c) → ∀ h : i < (bstr p).size, ((bstr p)[i]'h).toNat = c := by
          intro i c hc hi h
          have h9 : p[i]'(by simpa [bstr_size] using h) = UInt8.ofNat c := by
            rw [List.getElem?_eq_getElem (by simpa [bstr_size] using h)] at hi; injection hi
          show (p[i]'(by simpa [bstr_size] using h)).toNat = _
          rw [h9, UInt8.toNat_ofNat']
          omega
        have h0 := key _ _ (by omega) hpg.1
        have h1 := key _ _ (by omega) hpg.2.1
        have h2 := key _ _ (by omega) hpg.2.2
        clear key hpg
        obtain ⟨N, hN⟩ : ∃ N, N = 128 + n - 3 := ⟨_, rfl⟩
        rw [← hN] at h0
        have hNi : (N : Int) = (n : Int) + 125 := by omega
        obtain ⟨bh, hbh⟩ : ∃ bh, bh = bk / 256 := ⟨_, rfl⟩
        obtain ⟨bl, hbl⟩ : ∃ bl, bl = bk % 256 := ⟨_, rfl⟩
        rw [← hbh] at h1
        rw [← hbl] at h2
        have hbl8 : bl < 256 := by omega
        have hbh8 : bh < 4 := by omega
        have hor : bits .or .i64 ((bh : Int) * 256) (bl : Int) = (bk : Int) := by
          have := bits_nat .i64 63 (by decide) (fun n h0 h1 => IntWalk.i64_in _ ⟨by omega, by omega⟩) (bh * 256) bl (by omega) (by omega)
          have h9 := this.2
          rw [Int.natCast_mul] at h9
          rw [show ((256 : Nat) : Int) = 256 from rfl] at h9
          rw [h9]
          congr 1
          rw [show bh * 256 = bh <<< 8 by rw [Nat.shiftLeft_eq], ← Nat.shiftLeft_add_eq_or_of_lt (by omega : bl < 2 ^ 8), Nat.shiftLeft_eq]
          omega
        clear hN hbh hbl
        have hBz : B ≤ wr.heap.size := by rw [HB.out]; exact HBW.out.size
        have hi1 : (pre.length : Int) < (p.length : Int) := by omega
        clear hkl htl
        go_wp2_with fail
        have t1 : ((pre.length : Int) + 1).toNat = pre.length + 1 := by omega
        have t2 : ((pre.length : Int) + 2).toNat = pre.length + 2 := by omega
        have t3 : IntKind.i64.wrap ((pre.length : Int) + 1) = (pre.length : Int) + 1 := IntWalk.i64_in _ ⟨by omega, by omega⟩
        have t4 : IntKind.i64.wrap ((pre.length : Int) + 2) = (pre.length : Int) + 2 := IntWalk.i64_in _ ⟨by omega, by omega⟩
        have t5 : IntKind.i64.wrap ((bh : Int) * 256) = (bh : Int) * 256 := IntWalk.i64_in _ ⟨by omega, by omega⟩
        have t6 : (0 : Int) ≤ (pre.length : Int) + 1 := by omega
        have t7 : (0 : Int) ≤ (pre.length : Int) + 2 := by omega
        have t8 : (pre.length : Int) + 1 < (p.length : Int) := by omega
        have t9 : (pre.length : Int) + 2 < (p.length : Int) := by omega
        go_quiet (fail)
        clear t1 t2 t3 t4 t5 t6 t7 t8 t9
        have hd1 : ((bk : Int) == 0) = false := by rw [beq_eq_false_iff_ne]; omega
        have hd2 : decide ((1023 : Int) < (bk : Int)) = false := by rw [decide_eq_false_iff_not]; omega
        have hd3 : decide (u.length < bk) = false := by rw [decide_eq_false_iff_not]; omega
        have hdn : ((n : Int) + 125 + 1 + -126) = (n : Int) := by omega
        go_wp2_with fail
        have hO2 := HO.out.drewN nq
        have hB2 := bdrewN HBW.out nq
        have hz2 : (wr.drewN nq).heap.size = wr.heap.size := rfl
        have hBz2 : B ≤ (wr.drewN nq).heap.size := hBz
        generalize wr.drewN nq = w2 at *
        clear hz2 hdn
        have HO2 := Lib.hid hO2; clear hO2
        have HB2 := Lib.hid hB2; clear hB2
        clear h0 h1 h2 hor hd1 hd2 hd3 hi1
        go_loopw [4, 75] (fun o i wi => ∃ (j : Nat) (a' : Option Addr) (cap' : Nat), j ≤ n ∧ o = .slice a' (u.length + j) cap' ∧ i = .int .i64 (j : Int) ∧ Hid (Owns wi B 5 1 a' (u.length + j) cap' (bvals (Lz.copy u bk j))) ∧ Hid (Below B w wi)) (fun _ i _ => n - (intOf i).toNat)
        case atStart => exact ⟨0, a, cap, Nat.zero_le _, rfl, rfl, HO2, HB2⟩
        case round =>
          obtain ⟨j, a2, cap2, hj, rfl, rfl, HO3, HB3⟩ := hrel
          by_cases hjn : j < n
          · have hcl : (Lz.copy u bk j).length = u.length + j := Lz.copy_length _ _ _
            have hcs := Lz.copy_succ u bk j
            rw [hcl] at hcs
            obtain ⟨y, rfl⟩ : ∃ y, a2 = some y := by
              cases a2 with
              | none => have := HO3.out.of_none; omega
              | some y => exact ⟨y, rfl⟩
            have hrow := HO3.out.row
            obtain ⟨g, rfl⟩ : ∃ g, y = ⟨g, 0, none⟩ := ⟨y.block, hrow.1⟩
            have hcell := hrow.2.2.2.2.byte0 (u.length + j - bk) (by rw [hcl]; omega)
            have hBz3 : B ≤ wr.heap.size := by rw [HB.out]; exact HB3.out.size
            have hji : (j : Int) < (n : Int) := by omega
            have hix : ((u.length : Int) + (j : Int) - (bk : Int)).toNat = u.length + j - bk := by omega
            have HCS := Lib.hid hcs; clear hcs hrow
            generalize (Lz.copy u bk j).getD (u.length + j - bk) 0 = cc at *
            go_wp2_with (with_reducible refine wpList_push _ rfl _ _ 51 rfl B 5 (.int .u8 0) 1 1 Try.underlying51 infoU8 rfl (by decide) _ _ _ _ rfl HO3.out [.int .u8 (cc.toNat : Int)] rfl (by simp [Value.oneCell']) rfl (by unfold maxLen; omega) (by omega) hBz3 ?_; intro a' cap' w' hown' hgrow hloc hsz' hex)
            have hb4 : Below B w w' := HB3.out.grown hgrow hBz3 fun x hx => by
              have hgx : g = x := by simpa [blk] using hx
              subst hgx
              exact HO3.out.lt.1
            have HB4 := Lib.hid hb4; clear hb4 hgrow hloc hex
            have hbv : bvals (Lz.copy u bk j) ++ [Value.int .u8 (cc.toNat : Int)] = bvals (Lz.copy u bk (j + 1)) := by rw [HCS.out]; simp [bvals, bval]
            rw [hbv] at hown'
            have HO4 := Lib.hid hown'; clear hown' hbv
            go_roundw
            case rel => exact ⟨j + 1, a', cap', by omega, rfl, by go_num, HO4, HB4⟩
            case measure => simp [intOf]; omega
          · obtain rfl : j = n := by omega
            have hd : decide ((j : Int) < (j : Int)) = false := by simp
            have hcl : (Lz.copy u bk j).length = u.length + j := Lz.copy_length _ _ _
            go_wp2_with fail
            go_roundw
            case rel => exact ⟨q + 1, Lz.copy u bk j, a2, cap2, by omega, by rw [hcl], by rw [HTB.out]; go_num, HU3, Lib.hid (by rw [hcl]; exact HO3.out), HB3⟩
            case measure => simp [intOf]; omega
    · obtain rfl : q = toks.length := by omega
      have htk : toks.take toks.length = toks := List.take_length
      rw [htk] at HU ⊢
      rw [← HP.out]
      have hut : u = t := HU.out.eq.trans HT.out.eq.symm
      have HUT := Lib.hid hut; clear hut htk
      have hd : decide ((p.length : Int) < (p.length : Int)) = false := by simp
      cases a with
      | none =>
        have h3 := HO.out.of_none
        have hu0 : u = [] := by
          have := h3.1
          exact List.eq_nil_of_length_eq_zero this
        subst hu0
        obtain rfl : cap = 0 := h3.2.1
        have hcv : ∀ w, (convert 51 9 (.slice none 0 0)).run Try.prog w = .ok (.string (bstr [])) w := fun w => by kernel_rfl
        clear h3
        go_wp2_with fail
        go_ret2
        exact ⟨by rw [← HUT.out]; rfl, HBW.out⟩
      | some y =>
        have hrow := HO.out.row
        obtain ⟨g, rfl⟩ : ∃ g, y = ⟨g, 0, none⟩ := ⟨y.block, hrow.1⟩
        have hcv := run_string_of (P := Try.prog) 51 5 9 Try.underlying51 Try.underlying5 Try.underlying9 hrow.2.2.2.2 u.length cap rfl
        clear hrow
        go_wp2_with fail
        go_ret2
        exact ⟨by rw [← HUT.out]; rfl, HBW.out⟩
end Go.Proofs.Ytnldobfafaajjaa
