/- Contracts of package bits: Turn, Rotate. -/
import Derived.Test.YtlpockgofejogaaBitsB
namespace Go.Proofs.Ytlpockgofejogaa
open Go.RowKit
set_option linter.unusedVariables false
def turnTo (l : List UInt8) (k : Nat) : List UInt8 := turnV (l.take k) ++ l.drop k
theorem turnTo_length (l : List UInt8) (k : Nat) (h : k ≤ l.length) : (turnTo l k).length = l.length := by
  simp [turnTo, turnV]; omega
theorem turnTo_step (l : List UInt8) (k : Nat) (h : k < l.length) : (turnTo l k).set k (revB ((turnTo l k).getD k 0)) = turnTo l (k + 1) := by
  have hl : (turnV (l.take k)).length = k := by simp [turnV]; omega
  have hg : (turnTo l k).getD k 0 = l[k] := by
    rw [List.getD_eq_getElem?_getD, turnTo, List.getElem?_append_right (by omega), hl, Nat.sub_self, List.getElem?_drop, Nat.add_zero, List.getElem?_eq_getElem h]; rfl
  rw [hg]
  unfold turnTo
  rw [List.set_append_right _ _ (by omega), hl, Nat.sub_self, List.drop_eq_getElem_cons h, List.set_cons_zero, List.take_succ_eq_append_getElem h]
  simp only [turnV, List.map_append, List.map_cons, List.map_nil, List.append_assoc, List.singleton_append]
set_option maxRecDepth 100000 in
theorem Turn_any (s : ByteArray) (w : World) (hs : s.size ≤ 140737488351232) :
    Calls Try.prog 29 #[.string s] w fun e w' => e = .returned (.string (bstr (turnV s.data.toList))) ∧ Below w.heap.size w w' := by
  have hlen : s.data.toList.length = s.size := data_length s
  go_enter Try.func29, Try.ntmps29
  go_wp2_with (with_reducible refine wpList_bytes _ rfl _ _ _ _ rfl Try.underlying9 Try.underlying57 Try.underlying5 s rfl ?_; intro w1 cap hcap hrow hb hsz)
  generalize hl : s.data.toList = l at *
  have HL := Lib.hid hl; clear hl
  generalize hB : w.heap.size = B at *
  have HB := Lib.hid hB; clear hB
  go_loopw [9] (fun i wr => ∃ k : Nat, k ≤ s.size ∧ i = .int .i64 k ∧ RowAt wr B 0 5 (bvals (turnTo l k)) ∧ Below B w wr) (fun i _ => s.size - (intOf i).toNat)
  case atStart => exact ⟨0, by omega, rfl, by simpa [turnTo, turnV] using hrow, hb⟩
  case round =>
    clear hrow hb
    obtain ⟨k, hk, rfl, hrow, hb⟩ := hrel
    have htl := turnTo_length l k (by omega)
    generalize hT : turnTo l k = T at *
    have HT := Lib.hid hT; clear hT
    by_cases hlt : k < s.size
    · have hkT : k < T.length := by omega
      have hcell := hrow.byte0 _ hkT
      have hfr := hrow.frozen0 k (by rw [bvals_length]; exact hkT)
      have hx : (T.getD k 0).toNat < 256 := UInt8.toNat_lt _
      generalize hX : (T.getD k 0).toNat = x at *
      have HX := Lib.hid hX; clear hX
      have hw0 : IntKind.u8.wrap ((x : Int) * 16) = (x : Int) * 16 % 256 := IntKind.wrap_u8' _
      have hv1 := t1_form x hx
      have hx1 := (t_lt x hx).1
      generalize hy : t1 x = y at *
      have HY := Lib.hid hy; clear hy
      have hr1 := hrow.set0 k (by rw [bvals_length]; exact hkT) (.int .u8 (y : Nat))
      have hb1 := hb.setCell (p := ⟨B, k, none⟩) (Nat.le_refl _) (.int .u8 (y : Nat))
      have hset : (bvals T).set k (.int .u8 (y : Nat)) = bvals (T.set k (UInt8.ofNat y)) := by
        rw [← bvals_set, bval, UInt8.toNat_ofNat', Nat.mod_eq_of_lt hx1]
      rw [hset] at hr1
      clear hset
      have HR1 := Lib.hid hr1.drew; have HB1 := Lib.hid hb1.drew
      clear hr1 hb1
      go_wp2_with fail
      go_still_tail 14, (by kernel_rfl)
      change wpList _ _ _ _ _ wr.drew
      go_wp2_with fail
      generalize (wr.setCell ⟨B, k, none⟩ (.int .u8 (y : Nat))).drew = w2 at *
      clear hcell hfr hw0 hv1
      have hrow2 := HR1.out
      have hk2 : k < (T.set k (UInt8.ofNat y)).length := by rw [List.length_set]; exact hkT
      have hcell2 := hrow2.byte0 _ hk2
      have hfr2 := hrow2.frozen0 k (by rw [bvals_length]; exact hk2)
      have hgy : ((T.set k (UInt8.ofNat y)).getD k 0).toNat = y := by
        rw [List.getD_eq_getElem?_getD, List.getElem?_set, if_pos rfl, if_pos hkT]; simp; omega
      rw [hgy] at hcell2
      clear hgy
      obtain ⟨f1, f2, f3, f4⟩ := t2_form y hx1
      have hx2 := (t_lt y hx1).2.1
      generalize hz : t2 y = z at *
      have HZ := Lib.hid hz; clear hz
      generalize y / 4 &&& 51 = c1 at *
      generalize y &&& 51 = c2 at *
      generalize c2 * 4 = c3 at *
      go_wp2_with fail
      go_still_tail 16, (by kernel_rfl)
      change wpList _ _ _ _ _ w2.drew
      go_wp2_with fail
      have hr3 := hrow2.set0 k (by rw [bvals_length]; exact hk2) (.int .u8 (z : Nat))
      have hb3 := HB1.out.setCell (p := ⟨B, k, none⟩) (Nat.le_refl _) (.int .u8 (z : Nat))
      have hset3 : (bvals (T.set k (UInt8.ofNat y))).set k (.int .u8 (z : Nat)) = bvals (T.set k (UInt8.ofNat z)) := by
        rw [show (.int .u8 (z : Nat) : Value) = bval (UInt8.ofNat z) from by rw [bval, UInt8.toNat_ofNat', Nat.mod_eq_of_lt hx2], bvals_set, List.set_set]
      rw [hset3] at hr3
      clear hset3
      have HR3 := Lib.hid hr3.drew; have HB3 := Lib.hid hb3.drew
      clear hr3 hb3
      generalize (w2.setCell ⟨B, k, none⟩ (.int .u8 (z : Nat))).drew = w3 at *
      clear hcell2 hfr2 f1 f2 f3 f4 hrow2 hk2 HR1 HB1
      have hrow3 := HR3.out
      have hk3 : k < (T.set k (UInt8.ofNat z)).length := by rw [List.length_set]; exact hkT
      have hcell3 := hrow3.byte0 _ hk3
      have hfr3 := hrow3.frozen0 k (by rw [bvals_length]; exact hk3)
      have hgz : ((T.set k (UInt8.ofNat z)).getD k 0).toNat = z := by
        rw [List.getD_eq_getElem?_getD, List.getElem?_set, if_pos rfl, if_pos hkT]; simp; omega
      rw [hgz] at hcell3
      clear hgz
      obtain ⟨f1, f2, f3, f4⟩ := t3_form z hx2
      have hx3 := (t_lt z hx2).2.2
      generalize hv : t3 z = v at *
      have HV := Lib.hid hv; clear hv
      generalize z / 2 &&& 85 = c4 at *
      generalize z &&& 85 = c5 at *
      generalize c5 * 2 = c6 at *
      go_wp2_with fail
      go_still_tail 16, (by kernel_rfl)
      change wpList _ _ _ _ _ w3.drew
      go_wp2_with fail
      go_roundw
      case rel =>
        have hr4 := hrow3.set0 k (by rw [bvals_length]; exact hk3) (.int .u8 (v : Nat))
        have hset4 : (bvals (T.set k (UInt8.ofNat z))).set k (.int .u8 (v : Nat)) = bvals (T.set k (UInt8.ofNat v)) := by
          rw [show (.int .u8 (v : Nat) : Value) = bval (UInt8.ofNat v) from by rw [bval, UInt8.toNat_ofNat', Nat.mod_eq_of_lt hx3], bvals_set, List.set_set]
        rw [hset4, ← HV.out, ← HZ.out, ← HY.out, ← HX.out, ← HT.out] at hr4
        have hfin := turnTo_step l k (by omega)
        rw [revB, revN] at hfin
        rw [hfin] at hr4
        refine ⟨k + 1, by omega, by go_num, ?_, (HB3.out.setCell (p := ⟨B, k, none⟩) (Nat.le_refl _) _).drew⟩
        rw [← HV.out, ← HZ.out, ← HY.out, ← HX.out, ← HT.out]
        exact hr4.drew
      case measure => simp [intOf]; omega
    · obtain rfl : k = s.size := by omega
      have hconv := run_string_of (P := Try.prog) 57 5 9 Try.underlying57 Try.underlying5 Try.underlying9 hrow s.size cap (by omega)
      go_wp2_with fail
      go_ret
      refine ⟨?_, by rw [HB.out]; exact hb⟩
      rw [HL.out, ← HT.out]
      rw [turnTo, List.take_of_length_le (by omega), List.drop_of_length_le (by omega), List.append_nil]
      rfl

set_option maxRecDepth 100000 in
theorem Rotate_nil (n : Int) (s : ByteArray) (w : World) (h0 : s.size = 0) :
    Calls Try.prog 27 #[.string s, .int .i64 n] w fun e w' => e = .returned (.string (bstr [])) ∧ w = w' := by
  have he : s.toList = [] := by
    rw [ByteArray.toList_eq]; exact List.eq_nil_of_length_eq_zero (by rw [data_length]; exact h0)
  go_enter Try.func27, Try.ntmps27
  go_wp2_with fail
  go_ret
  exact ⟨rfl, rfl⟩
theorem tmod_fix (n N : Int) (hN : 0 < N) : (if n.tmod N < 0 then n.tmod N + N else n.tmod N) = n % N := by
  rw [Int.tmod_eq_emod]
  have h1 := Int.emod_nonneg n (show N ≠ 0 by omega)
  have h2 := Int.emod_lt_of_pos n hN
  split <;> split <;> omega
def rotTo (l : List UInt8) (n k : Nat) : List UInt8 := (rotV l n).take k ++ List.replicate (l.length - k) 0
theorem rotTo_length (l : List UInt8) (n k : Nat) (h : k ≤ l.length) : (rotTo l n k).length = l.length := by
  simp [rotTo, rotV_length]; omega
theorem rotTo_step (l : List UInt8) (n k : Nat) (h : k < l.length) : (rotTo l n k).set k (rotAt l n k) = rotTo l n (k + 1) := by
  have hl : ((rotV l n).take k).length = k := by rw [List.length_take, rotV_length]; omega
  have h2 : k < (rotV l n).length := by rw [rotV_length]; exact h
  unfold rotTo
  rw [List.set_append_right _ _ (by omega), hl, Nat.sub_self, show l.length - k = (l.length - (k + 1)) + 1 from by omega, List.replicate_succ, List.set_cons_zero, List.take_succ_eq_append_getElem h2, List.append_assoc]
  congr 1
  simp [rotV]
theorem bvals_replicate (n : Nat) : bvals (List.replicate n 0) = List.replicate n (.int .u8 0) := by
  simp [bvals, bval]
theorem ne_nil (s : ByteArray) (h0 : s.size ≠ 0) : s.toList.isEmpty = false := by
  have hlen : s.data.toList.length = s.size := data_length s
  rw [ByteArray.toList_eq]; rcases h : s.data.toList with _ | ⟨x, l⟩
  · rw [h] at hlen; simp at hlen; omega
  · rfl
set_option maxRecDepth 100000 in
theorem Rotate_any (s : ByteArray) (n : Int) (w : World) (h0 : s.size ≠ 0) (hs : s.size ≤ 140737488351232) (hn : -100000 ≤ n) (hn' : n ≤ 100000) :
    Calls Try.prog 27 #[.string s, .int .i64 n] w fun e w' => e = .returned (.string (bstr (rotV s.data.toList (n % (8 * s.size)).toNat))) ∧ Below w.heap.size w w' := by
  have hlen : s.data.toList.length = s.size := data_length s
  obtain ⟨i0, hi0, hz0, hz1, hz2⟩ := info_parts infoU8
  have hne := ne_nil s h0
  have hN : (0 : Int) < 8 * (s.size : Int) := by omega
  have htf := tmod_fix n (8 * s.size) hN
  have hm1 := Int.emod_nonneg n (show (8 * (s.size : Int)) ≠ 0 by omega)
  have hm2 := Int.emod_lt_of_pos n hN
  generalize hl : s.data.toList = l at *
  have HL := Lib.hid hl; clear hl
  obtain ⟨t, ht⟩ : ∃ t, n.tmod (8 * s.size) = t := ⟨_, rfl⟩
  rw [ht] at htf
  obtain ⟨q, hq⟩ := Int.eq_ofNat_of_zero_le hm1
  rw [hq] at htf hm2 ⊢
  rw [Int.toNat_natCast]
  have ht1 : t < 8 * (s.size : Int) := by split at htf <;> omega
  have ht2 : -(8 * (s.size : Int)) ≤ t := by split at htf <;> omega
  clear hm1 hq
  by_cases hneg : t < 0
  · rw [if_pos hneg] at htf
    go_enter Try.func27, Try.ntmps27
    go_wp2_with (at_make; with_reducible refine wpList_make0 _ rfl _ _ _ rfl 5 i0 (.int .u8 0) Try.underlying57 hi0 hz0 hz1 rfl .i64 .i64 _ _ s.size rfl rfl rfl rfl (by rw [hz2]; omega) (by unfold maxLen; omega) ?_; intro w1 hrow hb hsz)
    rw [← bvals_replicate] at hrow
    generalize hB : w.heap.size = B at *
    have HB := Lib.hid hB; clear hB
    go_loopw [29] (fun i wr => ∃ k : Nat, k ≤ s.size ∧ i = .int .i64 k ∧ RowAt wr B 0 5 (bvals (rotTo l q k)) ∧ Below B w wr) (fun i _ => s.size - (intOf i).toNat)
    case atStart => exact ⟨0, by omega, rfl, by rw [rotTo, hlen]; simpa using hrow, hb⟩
    case round =>
      clear hrow hb
      obtain ⟨k, hk, rfl, hrow, hb⟩ := hrel
      have htl := rotTo_length l q k (by omega)
      by_cases hlt : k < s.size
      · have hcell := hrow.byte0 k (by omega)
        have hfr := hrow.frozen0 k (by rw [bvals_length]; omega)
        obtain ⟨K, hK⟩ : ∃ K, K = (8 * k + q) % (8 * s.size) := ⟨_, rfl⟩
        have hKlt : K < 8 * s.size := by rw [hK]; exact Nat.mod_lt _ (by omega)
        have hKe : (8 * (k : Int) + (q : Int)) % (8 * (s.size : Int)) = (K : Int) := by rw [hK]; simp
        have HK := Lib.hid hK; clear hK
        go_wp2_with fail
        rw [hKe]
        clear hKe
        have hd1 : (K : Int) / 8 = ((K / 8 : Nat) : Int) := by omega
        have hd2 : K / 8 < s.size := by omega
        generalize hkd : K / 8 = kd at *
        have HKD := Lib.hid hkd; clear hkd
        obtain ⟨ke, hke⟩ : ∃ ke, ke = (kd + 1) % s.size := ⟨_, rfl⟩
        have hkel : ke < s.size := by rw [hke]; exact Nat.mod_lt _ (by omega)
        have hd3 : ((kd : Int) + 1) % (s.size : Int) = (ke : Int) := by rw [hke]; simp
        have HKE := Lib.hid hke; clear hke
        have hd4 : IntKind.i64.wrap ((K : Int) / 8) = (kd : Int) := by rw [hd1]; exact IntWalk.i64_in _ ⟨by omega, by omega⟩
        have hd5 : IntKind.i64.wrap ((kd : Int) + 1) = (kd : Int) + 1 := IntWalk.i64_in _ ⟨by omega, by omega⟩
        have hd6 : (kd : Int) < (s.size : Int) := by omega
        have hd7 : (ke : Int) < (s.size : Int) := by omega
        have hd8 : ((kd : Int) + 1).tmod (s.size : Int) = (ke : Int) := by rw [Int.tmod_eq_emod_of_nonneg (by omega)]; exact hd3
        have hd9 : (K : Int).tdiv 8 = (kd : Int) := by rw [Int.tdiv_eq_ediv_of_nonneg (by omega)]; exact hd1
        have hd10 : IntKind.i64.wrap (kd : Int) = (kd : Int) := IntWalk.i64_in _ ⟨by omega, by omega⟩
        go_quiet (fail)
        clear hd1 hd3 hd4 hd5 hd8 hd9 hd10
        have ha : s[kd].toNat < 256 := UInt8.toNat_lt _
        have hbb : s[ke].toNat < 256 := UInt8.toNat_lt _
        have hae : s[kd].toNat = (l.getD kd 0).toNat := by rw [byteAt s kd hd2, HL.out]
        have hbe : s[ke].toNat = (l.getD ke 0).toNat := by rw [byteAt s ke hkel, HL.out]
        generalize s[kd].toNat = a at *
        generalize s[ke].toNat = b at *
        have HAE := Lib.hid hae; clear hae
        have HBE := Lib.hid hbe; clear hbe
        have hor : bits .or .u64 ((a : Int) * 256) (b : Int) = ((a * 256 + b : Nat) : Int) := by
          have := bits_or_u64_nat (a * 256) b (by omega) (by omega)
          rw [nat_join 8 (a * 256) b (by omega) (by omega)] at this
          exact this
        have hab : a * 256 + b < 65536 := by omega
        generalize hz : a * 256 + b = z at *
        have HZ := Lib.hid hz; clear hz
        go_wp2_with fail
        have hset := rotTo_step l q k (by omega)
        have hcellv := rot_cell l q k K kd ke a b z (by rw [hlen]; exact HK.out) HKD.out (by rw [hlen]; exact HKE.out) HAE.out HBE.out HZ.out
        go_roundw
        case rel =>
          have hr := (hrow.drewN nq).set0 k (by rw [bvals_length]; omega) (bval (rotAt l q k))
          rw [bvals_set, hset] at hr
          rw [hcellv]
          exact ⟨k + 1, by omega, by go_num, hr, (bdrewN hb nq).setCell (p := ⟨B, k, none⟩) (Nat.le_refl _) _⟩
        case measure => simp [intOf]; omega
      · obtain rfl : k = s.size := by omega
        have hconv := run_string_of (P := Try.prog) 57 5 9 Try.underlying57 Try.underlying5 Try.underlying9 hrow s.size s.size (by omega)
        go_wp2_with fail
        go_ret
        refine ⟨?_, by rw [HB.out]; exact hb⟩
        rw [rotTo, List.take_of_length_le (by rw [rotV_length]; omega), hlen, Nat.sub_self, List.replicate_zero, List.append_nil]
        rfl
  · rw [if_neg hneg] at htf
    subst htf
    go_enter Try.func27, Try.ntmps27
    go_wp2_with (at_make; with_reducible refine wpList_make0 _ rfl _ _ _ rfl 5 i0 (.int .u8 0) Try.underlying57 hi0 hz0 hz1 rfl .i64 .i64 _ _ s.size rfl rfl rfl rfl (by rw [hz2]; omega) (by unfold maxLen; omega) ?_; intro w1 hrow hb hsz)
    rw [← bvals_replicate] at hrow
    generalize hB : w.heap.size = B at *
    have HB := Lib.hid hB; clear hB
    go_loopw [29] (fun i wr => ∃ k : Nat, k ≤ s.size ∧ i = .int .i64 k ∧ RowAt wr B 0 5 (bvals (rotTo l q k)) ∧ Below B w wr) (fun i _ => s.size - (intOf i).toNat)
    case atStart => exact ⟨0, by omega, rfl, by rw [rotTo, hlen]; simpa using hrow, hb⟩
    case round =>
      clear hrow hb
      obtain ⟨k, hk, rfl, hrow, hb⟩ := hrel
      have htl := rotTo_length l q k (by omega)
      by_cases hlt : k < s.size
      · have hcell := hrow.byte0 k (by omega)
        have hfr := hrow.frozen0 k (by rw [bvals_length]; omega)
        obtain ⟨K, hK⟩ : ∃ K, K = (8 * k + q) % (8 * s.size) := ⟨_, rfl⟩
        have hKlt : K < 8 * s.size := by rw [hK]; exact Nat.mod_lt _ (by omega)
        have hKe : (8 * (k : Int) + (q : Int)) % (8 * (s.size : Int)) = (K : Int) := by rw [hK]; simp
        have HK := Lib.hid hK; clear hK
        go_wp2_with fail
        rw [hKe]
        clear hKe
        have hd1 : (K : Int) / 8 = ((K / 8 : Nat) : Int) := by omega
        have hd2 : K / 8 < s.size := by omega
        generalize hkd : K / 8 = kd at *
        have HKD := Lib.hid hkd; clear hkd
        obtain ⟨ke, hke⟩ : ∃ ke, ke = (kd + 1) % s.size := ⟨_, rfl⟩
        have hkel : ke < s.size := by rw [hke]; exact Nat.mod_lt _ (by omega)
        have hd3 : ((kd : Int) + 1) % (s.size : Int) = (ke : Int) := by rw [hke]; simp
        have HKE := Lib.hid hke; clear hke
        have hd4 : IntKind.i64.wrap ((K : Int) / 8) = (kd : Int) := by rw [hd1]; exact IntWalk.i64_in _ ⟨by omega, by omega⟩
        have hd5 : IntKind.i64.wrap ((kd : Int) + 1) = (kd : Int) + 1 := IntWalk.i64_in _ ⟨by omega, by omega⟩
        have hd6 : (kd : Int) < (s.size : Int) := by omega
        have hd7 : (ke : Int) < (s.size : Int) := by omega
        have hd8 : ((kd : Int) + 1).tmod (s.size : Int) = (ke : Int) := by rw [Int.tmod_eq_emod_of_nonneg (by omega)]; exact hd3
        have hd9 : (K : Int).tdiv 8 = (kd : Int) := by rw [Int.tdiv_eq_ediv_of_nonneg (by omega)]; exact hd1
        have hd10 : IntKind.i64.wrap (kd : Int) = (kd : Int) := IntWalk.i64_in _ ⟨by omega, by omega⟩
        go_quiet (fail)
        clear hd1 hd3 hd4 hd5 hd8 hd9 hd10
        have ha : s[kd].toNat < 256 := UInt8.toNat_lt _
        have hbb : s[ke].toNat < 256 := UInt8.toNat_lt _
        have hae : s[kd].toNat = (l.getD kd 0).toNat := by rw [byteAt s kd hd2, HL.out]
        have hbe : s[ke].toNat = (l.getD ke 0).toNat := by rw [byteAt s ke hkel, HL.out]
        generalize s[kd].toNat = a at *
        generalize s[ke].toNat = b at *
        have HAE := Lib.hid hae; clear hae
        have HBE := Lib.hid hbe; clear hbe
        have hor : bits .or .u64 ((a : Int) * 256) (b : Int) = ((a * 256 + b : Nat) : Int) := by
          have := bits_or_u64_nat (a * 256) b (by omega) (by omega)
          rw [nat_join 8 (a * 256) b (by omega) (by omega)] at this
          exact this
        have hab : a * 256 + b < 65536 := by omega
        generalize hz : a * 256 + b = z at *
        have HZ := Lib.hid hz; clear hz
        go_wp2_with fail
        have hset := rotTo_step l q k (by omega)
        have hcellv := rot_cell l q k K kd ke a b z (by rw [hlen]; exact HK.out) HKD.out (by rw [hlen]; exact HKE.out) HAE.out HBE.out HZ.out
        go_roundw
        case rel =>
          have hr := (hrow.drewN nq).set0 k (by rw [bvals_length]; omega) (bval (rotAt l q k))
          rw [bvals_set, hset] at hr
          rw [hcellv]
          exact ⟨k + 1, by omega, by go_num, hr, (bdrewN hb nq).setCell (p := ⟨B, k, none⟩) (Nat.le_refl _) _⟩
        case measure => simp [intOf]; omega
      · obtain rfl : k = s.size := by omega
        have hconv := run_string_of (P := Try.prog) 57 5 9 Try.underlying57 Try.underlying5 Try.underlying9 hrow s.size s.size (by omega)
        go_wp2_with fail
        go_ret
        refine ⟨?_, by rw [HB.out]; exact hb⟩
        rw [rotTo, List.take_of_length_le (by rw [rotV_length]; omega), hlen, Nat.sub_self, List.replicate_zero, List.append_nil]
        rfl
end Go.Proofs.Ytlpockgofejogaa
