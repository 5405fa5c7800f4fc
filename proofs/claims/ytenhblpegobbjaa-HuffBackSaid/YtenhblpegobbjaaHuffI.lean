/- Contract of huff.Pack (the contract of Lens as a hypothesis, for trials without HuffD). -/
import Derived.Test.YtenhblpegobbjaaHuffH
import Derived.Test.YtenhblpegobbjaaMakeC
import Derived.Test.YtenhblpegobbjaaPlainHuff10
import Derived.BigRegion
namespace Go.Proofs.Ytenhblpegobbjaa
open Go.RowKit
set_option linter.unusedVariables false
set_option linter.unusedSimpArgs false
theorem nvals_map (L : List Nat) : nvals .i64 L = ivals (L.map fun r : Nat => (r : Int)) := by
  simp [nvals, ivals, List.map_map, Function.comp_def]
theorem rd_rowI {w : World} {g : Nat} {e : TypeId} {L : List Int} (h : RowAt w g 0 e (ivals L)) : RdI w (some ⟨g, 0, none⟩) L := h.readsI.rd
def LensIs : Prop := ∀ (a : Option Addr) (c : Nat) (L : List Int) (C : List Nat) (w : World), RdI w a L → L.length = 256 → C = L.map Int.toNat → (∀ x ∈ L, 0 ≤ x ∧ x ≤ 1099511627776) →
  Calls Try.prog 37 #[.slice a 256 c] w fun e w' => ∃ g, e = .returned (.tuple #[.slice (some ⟨g, 0, none⟩) 256 256, .nilIface]) ∧ RowAt w' g 0 3 (nvals .i64 (Huff.lens C)) ∧ w.heap.size ≤ g ∧ Below w.heap.size w w'
theorem ofInt64H (a : Nat) (h : a < 9223372036854775808) : (BitVec.ofInt 64 (a : Int)).toNat = a := by
  rw [BitVec.ofInt_natCast, BitVec.toNat_ofNat]; exact Nat.mod_eq_of_lt (by omega)
theorem band64H (a b : Nat) (ha : a < 9223372036854775808) (hb : b < 9223372036854775808) : bits .and .i64 (a : Int) (b : Int) = ((a &&& b : Nat) : Int) := by
  have hx : a &&& b < 2 ^ 63 := Nat.and_lt_two_pow _ (by omega)
  show IntKind.i64.wrap ((BitVec.ofInt 64 (a : Int) &&& BitVec.ofInt 64 (b : Int)).toNat : Int) = _
  rw [BitVec.toNat_and, ofInt64H a ha, ofInt64H b hb, IntKind.wrap_i64]
  omega
theorem or8T : ∀ (t : Fin 8) (v : Fin 256) (b : Bool), (v : Nat) % 2 ^ (8 - (t : Nat)) = 0 → bits .or .u8 ((v : Nat) : Int) ((Huff.b2n b * 2 ^ (7 - (t : Nat)) : Nat) : Int) = (((v : Nat) + Huff.b2n b * 2 ^ (7 - (t : Nat)) : Nat) : Int) := by decide +kernel
theorem or8 (t v : Nat) (b : Bool) (ht : t < 8) (hv : v < 256) (h : v % 2 ^ (8 - t) = 0) : bits .or .u8 (v : Int) ((Huff.b2n b * 2 ^ (7 - t) : Nat) : Int) = ((v + Huff.b2n b * 2 ^ (7 - t) : Nat) : Int) := or8T ⟨t, ht⟩ ⟨v, hv⟩ b h
theorem wnat (n : Nat) (h : n ≤ 140737488355328) : wrap64 (n : Int) = (n : Int) ∧ IntKind.i64.wrap (n : Int) = (n : Int) := by
  refine ⟨IntWalk.wrap64_in _ ⟨by omega, by omega⟩, ?_⟩
  rw [IntKind.wrap_i64]; omega
theorem nvals_bvals (X : List Nat) (h : ∀ x ∈ X, x < 256) : nvals .u8 X = bvals (X.map UInt8.ofNat) := by
  unfold nvals bvals bval
  rw [List.map_map]
  apply List.map_congr_left
  intro x hx
  have e : (UInt8.ofNat x).toNat = x := by rw [UInt8.toNat_ofNat']; exact Nat.mod_eq_of_lt (h x hx)
  simp only [Function.comp_apply, e]
theorem conv_ownH {w : World} {B : Nat} {a : Option Addr} {n cap : Nat} {l : List UInt8} (h' : Owns w B 5 1 a n cap (bvals l)) : (convert 79 9 (.slice a n cap)).run Try.prog w = .ok (.string (bstr l)) w := by
  have hl := h'.len
  rw [bvals_length, Nat.mul_one] at hl
  cases a with
  | none =>
    obtain ⟨h1, h2, h3⟩ := h'.of_none
    subst h1 h2
    obtain rfl : l = [] := List.eq_nil_of_length_eq_zero hl
    have hcv : ∀ w, (convert 79 9 (.slice none 0 0)).run Try.prog w = .ok (.string (bstr [])) w := fun w => by kernel_rfl
    exact hcv w
  | some x =>
    obtain ⟨e1, e2, e3, e4, e5⟩ := h'.row
    rw [e1]
    exact run_string_of (P := Try.prog) 79 5 9 Try.underlying79 Try.underlying5 Try.underlying9 e5 n cap hl.symm
theorem or8m (t v : Nat) (y : Bool) (ht : t < 8) (hv : v < 256) (h : v % 2 ^ (8 - t) = 0) : bits .or .u8 (v : Int) (((Huff.b2n y : Nat) : Int) * 2 ^ (7 - t) % 256) = ((v + Huff.b2n y * 2 ^ (7 - t) : Nat) : Int) := by
  have h1 : 2 ^ (7 - t) ≤ 2 ^ 7 := Nat.pow_le_pow_right (by decide) (by omega)
  have h2 : Huff.b2n y * 2 ^ (7 - t) ≤ 1 * 2 ^ 7 := Nat.mul_le_mul (Huff.b2n_le y) h1
  have e : (((Huff.b2n y : Nat) : Int) * 2 ^ (7 - t) % 256) = ((Huff.b2n y * 2 ^ (7 - t) : Nat) : Int) := by
    have e1 : ((Huff.b2n y : Nat) : Int) * 2 ^ (7 - t) = ((Huff.b2n y * 2 ^ (7 - t) : Nat) : Int) := by simp
    rw [e1]; omega
  rw [e]
  exact or8 t v y ht hv h
open Huff in
set_option maxRecDepth 100000 in
set_option maxHeartbeats 4000000 in
theorem Pack_any (HLE : LensIs) (l : List UInt8) (w : World) (h4 : l.length ≤ 4000) :
    Calls Try.prog 39 #[.string (bstr l)] w fun e w' => e = .returned (.tuple #[.string (bstr ((Huff.packed l).map UInt8.ofNat)), .nilIface]) ∧ Below w.heap.size w w' := by
  have hd : decide ((4000 : Int) < (l.length : Int)) = false := decide_eq_false (by omega)
  have hcl := counts_length l
  have hcs := counts_sum l
  have hfit := fits_few (counts l) (by rw [hcl]; exact Nat.le_refl _) (by rw [hcs]; omega)
  have hdl := lens_length (counts l) (by rw [hcl]; exact Nat.le_refl _)
  rw [hcl] at hdl
  have hcb : ∀ x ∈ (counts l).map (fun r : Nat => (r : Int)), 0 ≤ x ∧ x ≤ 1099511627776 := by
    intro x hx
    obtain ⟨n, hn, rfl⟩ := List.mem_map.1 hx
    unfold counts at hn
    obtain ⟨c, _, rfl⟩ := List.mem_map.1 hn
    have := List.countP_le_length (p := fun y : UInt8 => decide (y.toNat = c)) (l := l)
    omega
  have hct : counts l = ((counts l).map (fun r : Nat => (r : Int))).map Int.toNat := by
    rw [List.map_map]; conv => lhs; rw [← List.map_id (counts l)]
    apply List.map_congr_left; intro x _; simp
  have hpk : packed l = head l (lens (counts l)) ++ packBits (bitsS (ofInts (lens (counts l))) (l.map (·.toNat))) := rfl
  obtain ⟨i0, hi, hz0, hz1, hz2⟩ := info_parts infoU8
  have HFIT := Lib.hid hfit; have HDL := Lib.hid hdl; have HCB := Lib.hid hcb; have HCT := Lib.hid hct; have HCL := Lib.hid hcl; have HPK := Lib.hid hpk
  clear hfit hdl hcb hct hcl hcs hpk
  go_enter Try.func39, Try.ntmps39
  go_wp2_with fail
  refine (Count_any l w (by omega)).mono ?_
  rintro e w1 ⟨g1, rfl, hr1, hg1, hb1⟩
  rw [nvals_map] at hr1
  have HR1 := Lib.hid (rd_rowI hr1); have HB1 := Lib.hid hb1
  clear hr1 hb1
  go_wp2_with fail
  refine (HLE _ 256 _ (counts l) w1 HR1.out (by rw [List.length_map]; exact HCL.out) HCT.out HCB.out).mono ?_
  rintro e w2 ⟨g2, rfl, hr2, hg2, hb2⟩
  obtain ⟨D, hD⟩ : ∃ D, D = lens (counts l) := ⟨_, rfl⟩
  rw [← hD] at hr2
  have hfit := HFIT.out; have hdl := HDL.out; have hpk := HPK.out
  rw [← hD] at hfit hdl hpk
  have HF2 := Lib.hid hfit; have HD2 := Lib.hid hdl; have HP2 := Lib.hid hpk
  clear hfit hdl hpk hD HFIT HDL HPK HR1 HCT HCL HCB
  rw [nvals_map] at hr2
  have HR2 := Lib.hid hr2; have HB2 := Lib.hid (HB1.out.trans (hb2.mono HB1.out.size))
  clear hr2 hb2 HB1
  go_wp2_with fail
  refine (Signs_ok _ 256 256 (ofInts D) w2 (rd_rowI HR2.out) (by unfold ofInts; rw [List.length_map]; exact HD2.out) (by omega) HF2.out).mono ?_
  rintro e w3 ⟨g3, rfl, hr3, hg3, hb3⟩
  have HR3 := Lib.hid hr3; have HR2b := Lib.hid (HR2.out.below hb3 HR2.out.lt); have HB3 := Lib.hid (HB2.out.trans (hb3.mono HB2.out.size))
  clear hr3 hb3 HB2 HR2
  have HW1 := Lib.hid (show (259 : Int) + (l.length : Int) = ((259 + l.length : Nat) : Int) by omega)
  obtain ⟨B, hB⟩ : ∃ B, B = w3.heap.size := ⟨_, rfl⟩
  have HBZ := Lib.hid hB; clear hB
  go_wp2_with (with_reducible refine wpList_makeC _ rfl _ _ 79 rfl 5 i0 (.int .u8 0) Try.underlying79 hi hz0 hz1 rfl .i64 .i64 0 (259 + (l.length : Int)) 0 (259 + l.length) rfl rfl rfl HW1.out (Nat.zero_le _) (by rw [hz2]; omega) (by unfold maxLen; omega) B (by rw [HBZ.out]; exact Nat.le_refl _) ?_; intro w4 hown1 hb4 hs4)
  have hown1' : Owns w4 B 5 1 (some ⟨w3.heap.size, 0, none⟩) 0 (259 + l.length) (nvals .u8 (D.take 0)) := hown1
  have HO1 := Lib.hid hown1'; have HB4 := Lib.hid hb4
  clear hown1 hown1' hb4 hs4
  go_loopw [7, 40] (fun v7 v40 wr => ∃ (k : Nat) (a : Option Addr) (c : Nat), k ≤ 256 ∧ v40 = .int .i64 k ∧ v7 = .slice a k c ∧ Hid (Owns wr B 5 1 a k c (nvals .u8 (D.take k))) ∧ Hid (Below w3.heap.size w3 wr)) (fun _ v40 _ => 256 - (intOf v40).toNat)
  case atStart => exact ⟨0, _, _, by omega, rfl, rfl, HO1, HB4⟩
  case round =>
    obtain ⟨k, a, c, hk, rfl, rfl, HO, HB⟩ := hrel
    by_cases hlt : k < 256
    · have hki : (k : Int) < 256 := by omega
      have hkD : k < D.length := by rw [HD2.out]; exact hlt
      have hrow := HR2b.out.below HB.out HR2b.out.lt
      rw [← nvals_map] at hrow
      have hc := hrow.cell0 k (by rw [nvals_length]; exact hkD)
      rw [nvals_get] at hc
      have hd24 : D.getD k 0 ≤ 24 := by
        have h1 := HF2.out.1 ((D.getD k 0 : Nat) : Int) (List.mem_map.2 ⟨D.getD k 0, by rw [List.getD_eq_getElem?_getD, List.getElem?_eq_getElem hkD]; exact List.getElem_mem hkD, rfl⟩)
        omega
      have hts : nvals .u8 (D.take (k + 1)) = nvals .u8 (D.take k) ++ [.int .u8 (D.getD k 0 : Nat)] := by
        rw [List.take_succ_eq_append_getElem hkD, List.getD_eq_getElem?_getD, List.getElem?_eq_getElem hkD]
        unfold nvals
        rw [List.map_append]; rfl
      generalize D.getD k 0 = d at *
      have HTS := Lib.hid hts
      have hw8 : IntKind.u8.wrap (d : Int) = (d : Int) := by rw [IntKind.wrap_u8]; omega
      have hml : k + 1 ≤ maxLen := by unfold maxLen; omega
      have hby : (k + 1) * 1 ≤ 140737488355328 := by omega
      have hBz : B ≤ wr.heap.size := by have := HB.out.size; have := HBZ.out; omega
      clear hts hrow
      go_wp2_with (with_reducible refine wpList_push _ rfl _ _ 79 rfl B 5 (.int .u8 0) 1 1 Try.underlying79 infoU8 rfl (by decide) a k c _ rfl HO.out [.int .u8 (d : Nat)] rfl (by simp [Value.oneCell']) rfl hml hby hBz ?_; intro a' c' w5 hown' hgrow hloc hsz hex)
      rw [← HTS.out] at hown'
      have HO5 := Lib.hid hown'
      have HB5 := Lib.hid (below_blk HB.out HO.out (by rw [HBZ.out]; exact Nat.le_refl _) (by have := HB.out.size; omega) hgrow)
      clear hown' hgrow hloc hsz hex
      go_wp2_with fail
      go_roundw
      case rel => exact ⟨k + 1, a', c', by omega, by go_num, rfl, HO5, HB5⟩
      case measure => simp [intOf]; omega
    · obtain rfl : k = 256 := by omega
      have hd9 : decide (((256 : Nat) : Int) < 256) = false := by decide
      have hall : D.take 256 = D := List.take_of_length_le (by rw [HD2.out]; exact Nat.le_refl _)
      have HO6 : Hid (Owns wr B 5 1 a 256 c (nvals .u8 D)) := by
        have h := HO.out
        rw [hall] at h
        exact Lib.hid h
      clear HO hall HO1 HB4
      have hhd : nvals .u8 D ++ [.int .u8 ((l.length : Int) / 65536), .int .u8 ((l.length : Int) / 256), .int .u8 ((l.length : Int) % 256)] = nvals .u8 (head l D) := by
        have q1 : l.length / 65536 % 256 = l.length / 65536 := by omega
        have q2 : l.length / 256 % 256 = l.length / 256 := by omega
        unfold head
        rw [q1, q2]
        unfold nvals
        rw [List.map_append]; rfl
      have HHD := Lib.hid hhd
      have hml : 256 + 3 ≤ maxLen := by decide
      have hBz : B ≤ wr.heap.size := by have := HB.out.size; have := HBZ.out; omega
      clear hhd
      go_wp2_with (with_reducible refine wpList_pushN _ rfl _ _ 79 rfl B 5 (.int .u8 0) 1 1 Try.underlying79 infoU8 rfl (by decide) a 256 c _ rfl HO6.out 3 (by decide) [.int .u8 ((l.length : Int) / 65536), .int .u8 ((l.length : Int) / 256), .int .u8 ((l.length : Int) % 256)] rfl (by simp [Value.oneCell']) rfl hml (by decide) hBz ?_; intro a6 c6 w6 hown6 hgrow6 hloc6 hsz6 hex6)
      rw [HHD.out] at hown6
      have HO7 : Hid (Owns w6 B 5 1 a6 259 c6 (nvals .u8 (head l D))) := Lib.hid hown6
      have HB7 := Lib.hid (below_blk HB.out HO6.out (by rw [HBZ.out]; exact Nat.le_refl _) (by have := HB.out.size; omega) hgrow6)
      clear hown6 hgrow6 hloc6 hsz6 hex6 HO6 HHD
      have hz0 : (head l D).length = 259 := by unfold head; rw [List.length_append, HD2.out]; rfl
      have HO8 : Hid (Owns w6 B 5 1 a6 (head l D ++ packBits (bitsS (ofInts D) ((l.take 0).map (·.toNat)))).length c6 (nvals .u8 (head l D ++ packBits (bitsS (ofInts D) ((l.take 0).map (·.toNat)))))) := by
        have e : packBits (bitsS (ofInts D) ((l.take 0).map (·.toNat))) = [] := by rw [List.take_zero]; simp [bitsS, packBits]
        rw [e, List.append_nil, hz0]; exact Lib.hid HO7.out
      have en : (259 : Nat) = (head l D ++ packBits (bitsS (ofInts D) ((l.take 0).map (·.toNat)))).length := by
        have e : packBits (bitsS (ofInts D) ((l.take 0).map (·.toNat))) = [] := by rw [List.take_zero]; simp [bitsS, packBits]
        rw [e, List.append_nil, hz0]
      have EN := Lib.hid en
      clear en hz0 HO7
      go_wp2_with fail
      go_loopw [7, 10, 66] (fun v7 v10 v66 wr => ∃ (i : Nat) (a : Option Addr) (c : Nat), i ≤ l.length ∧ v66 = .int .i64 i ∧ v10 = .int .i64 (bitsS (ofInts D) ((l.take i).map (·.toNat))).length ∧ v7 = .slice a (head l D ++ packBits (bitsS (ofInts D) ((l.take i).map (·.toNat)))).length c ∧ Hid (Owns wr B 5 1 a (head l D ++ packBits (bitsS (ofInts D) ((l.take i).map (·.toNat)))).length c (nvals .u8 (head l D ++ packBits (bitsS (ofInts D) ((l.take i).map (·.toNat)))))) ∧ Hid (Below w3.heap.size w3 wr)) (fun _ _ v66 _ => l.length - (intOf v66).toNat)
      case atStart => exact ⟨0, a6, c6, by omega, rfl, rfl, by rw [← EN.out], HO8, HB7⟩
      case round =>
        clear HO8 HB7 EN HB
        obtain ⟨i, a, c, hi9, rfl, rfl, rfl, HO, HB⟩ := hrel
        by_cases hlt : i < l.length
        · have hki : (i : Int) < (l.length : Int) := by omega
          have hx : ∀ h : i < (bstr l).size, ((bstr l)[i]'h).toNat = (l.getD i 0).toNat := fun h => by
            rw [List.getD_eq_getElem?_getD, List.getElem?_eq_getElem hlt]; rfl
          have hx8 := (l.getD i 0).toNat_lt
          have hbs : (l.take (i + 1)).map (·.toNat) = (l.take i).map (·.toNat) ++ [(l.getD i 0).toNat] := by
            rw [List.take_succ_eq_append_getElem hlt, List.map_append, List.getD_eq_getElem?_getD, List.getElem?_eq_getElem hlt]; rfl
          generalize (l.getD i 0).toNat = x at *
          have hxD : x < D.length := by rw [HD2.out]; exact hx8
          have hrow := HR2b.out.below HB.out HR2b.out.lt
          rw [← nvals_map] at hrow
          have hc2 := hrow.cell0 x (by rw [nvals_length]; exact hxD)
          rw [nvals_get] at hc2
          have hx256 : (x : Int) < 256 := by omega
          have hm24 : D.getD x 0 ≤ 24 := by
            have h1 := HF2.out.1 ((D.getD x 0 : Nat) : Int) (List.mem_map.2 ⟨D.getD x 0, by rw [List.getD_eq_getElem?_getD, List.getElem?_eq_getElem hxD]; exact List.getElem_mem hxD, rfl⟩)
            omega
          have hof : (ofInts D).getD x 0 = ((D.getD x 0 : Nat) : Int) := by
            unfold ofInts
            rw [List.getD_eq_getElem?_getD, List.getElem?_map, List.getD_eq_getElem?_getD, List.getElem?_eq_getElem hxD]; rfl
          have hcd : (codes (ofInts D)).getD x 0 = (code (ofInts D) x : Int) := codes_get _ _ (by unfold ofInts; rw [List.length_map]; exact hxD)
          have hbc : bitsS (ofInts D) ((l.take i).map (·.toNat) ++ [x]) = bitsS (ofInts D) ((l.take i).map (·.toNat)) ++ bitsOf (D.getD x 0) (code (ofInts D) x) := by
            rw [bitsS_append, bitsS_cons, hof]; simp [bitsS]
          rw [← hbs] at hbc
          have hcc : 0 < D.getD x 0 → code (ofInts D) x < 16777216 := by
            intro h0
            have h1 := code_bound (ofInts D) HF2.out.2 x (by unfold ofInts; rw [List.length_map]; exact hxD) (by rw [hof]; omega) (by rw [hof]; omega)
            rw [hof, Int.toNat_natCast] at h1
            exact Nat.lt_of_lt_of_le h1 (Nat.pow_le_pow_right (by decide) hm24)
          have hpb := bitsS_le (ofInts D) (fun y hy => (HF2.out.1 y hy).2) ((l.take i).map (·.toNat))
          rw [List.length_map, List.length_take] at hpb
          generalize D.getD x 0 = m at *
          generalize hpre : bitsS (ofInts D) ((l.take i).map (·.toNat)) = pb at *
          generalize code (ofInts D) x = cc at *
          have HBS := Lib.hid hbc; have HCD := Lib.hid hcd
          have hwm : wrap64 ((m : Int) - 1) = (m : Int) - 1 := IntWalk.wrap64_in _ ⟨by omega, by omega⟩
          have hwm2 : IntKind.i64.wrap ((m : Int) - 1) = (m : Int) - 1 := by rw [IntKind.wrap_i64]; omega
          clear hbs hrow hpre hof hbc hcd
          go_wp2_with fail
          go_loopw [7, 10, 12] (fun v7 v10 v12 wr => ∃ (j : Nat) (a : Option Addr) (c : Nat), j ≤ m ∧ v12 = .int .i64 ((m : Int) - 1 - (j : Int)) ∧ v10 = .int .i64 (pb ++ (bitsOf m cc).take j).length ∧ v7 = .slice a (head l D ++ packBits (pb ++ (bitsOf m cc).take j)).length c ∧ Hid (Owns wr B 5 1 a (head l D ++ packBits (pb ++ (bitsOf m cc).take j)).length c (nvals .u8 (head l D ++ packBits (pb ++ (bitsOf m cc).take j)))) ∧ Hid (Below w3.heap.size w3 wr)) (fun _ _ v12 _ => ((intOf v12) + 1).toNat)
          case atStart => exact ⟨0, a, c, by omega, by congr 1; omega, by rw [List.take_zero, List.append_nil], by rw [List.take_zero, List.append_nil], by rw [List.take_zero, List.append_nil]; exact HO, HB⟩
          case round =>
            clear HO HB
            obtain ⟨j, a, c, hj, rfl, rfl, rfl, HO, HB⟩ := hrel
            by_cases hjm : j < m
            · have hk0 : decide ((0 : Int) ≤ (m : Int) - 1 - (j : Int)) = true := decide_eq_true (by omega)
              have hts : (bitsOf m cc).take (j + 1) = (bitsOf m cc).take j ++ [decide (cc / 2 ^ (m - 1 - j) % 2 = 1)] := by
                rw [List.take_succ_eq_append_getElem (by rw [bitsOf_length]; exact hjm)]
                simp [bitsOf]
              have hyb : b2n (decide (cc / 2 ^ (m - 1 - j) % 2 = 1)) = cc / 2 ^ (m - 1 - j) % 2 := by
                have := Nat.mod_lt (cc / 2 ^ (m - 1 - j)) (show 0 < 2 by omega)
                unfold b2n
                split
                · rename_i h; simp at h; omega
                · rename_i h; simp at h; omega
              have hand : bits .and .i64 ((cc / 2 ^ (m - 1 - j) : Nat) : Int) 1 = ((cc / 2 ^ (m - 1 - j) % 2 : Nat) : Int) := by
                have h := band64H (cc / 2 ^ (m - 1 - j)) 1 (Nat.lt_of_le_of_lt (Nat.div_le_self _ _) (by have := hcc (by omega); omega)) (by decide)
                rw [Nat.and_one_is_mod] at h
                exact h
              rw [← hyb] at hand
              have hand2 : bits .and .i64 ((cc : Int) / 2 ^ (m - 1 - j)) 1 = ((b2n (decide (cc / 2 ^ (m - 1 - j) % 2 = 1)) : Nat) : Int) := hand
              have hyl := b2n_le (decide (cc / 2 ^ (m - 1 - j) % 2 = 1))
              clear hyb hand
              generalize decide (cc / 2 ^ (m - 1 - j) % 2 = 1) = y at *
              generalize hR : pb ++ (bitsOf m cc).take j = R at *
              have hrl : R.length + 1 ≤ 140737488355328 := by
                have h2 : R.length ≤ 24 * i + 24 := by
                  rw [← hR, List.length_append, List.length_take, bitsOf_length]; omega
                omega
              have hhl : (head l D).length = 259 := by unfold head; rw [List.length_append, HD2.out]; rfl
              have hpl : (head l D ++ packBits R).length = 259 + (R.length + 7) / 8 := by rw [List.length_append, hhl, packBits_length]
              by_cases h8 : R.length % 8 = 0
              · have d1 : ((R.length : Int) % 8 == 0) = true := by rw [beq_iff_eq]; omega
                obtain ⟨Q, hQe⟩ : ∃ Q, Q = head l D ++ packBits R := ⟨_, rfl⟩
                have e4 := pack_new (head l D) R y h8
                obtain ⟨t, ht⟩ : ∃ t, R.length % 8 = t := ⟨_, rfl⟩
                have ht8 : t < 8 := by omega
                have hti : (R.length : Int) % 8 = (t : Int) := by omega
                obtain ⟨v, hv0⟩ : ∃ v : Nat, v = 0 := ⟨_, rfl⟩
                have e2 : v < 256 := by omega
                have e3 : v % 2 ^ (8 - t) = 0 := by rw [hv0, Nat.zero_mod]
                rw [ht] at e4
                have e4' : head l D ++ packBits (R ++ [y]) = Q ++ [v + b2n y * 2 ^ (7 - t)] := by rw [e4, hQe, hv0, Nat.zero_add]
                clear e4
                have ho0 := HO.out
                rw [← hQe] at ho0 hpl ⊢
                have hml : Q.length + 1 ≤ maxLen := by unfold maxLen; omega
                have hby : (Q.length + 1) * 1 ≤ 140737488355328 := by omega
                have hqm : Q.length ≤ 140737488355328 := by omega
                have hBz : B ≤ wr.heap.size := by have := HB.out.size; have := HBZ.out; omega
                have hx0 : nvals .u8 Q ++ [.int .u8 0] = nvals .u8 (Q ++ [v]) := by unfold nvals; rw [List.map_append, hv0]; rfl
                have HX0 := Lib.hid hx0; have HHO0 := Lib.hid ho0; have HV0 := Lib.hid hv0; have HE40 := Lib.hid e4'; have HRS := Lib.hid hrl; have HQM := Lib.hid hqm; have HHT := Lib.hid ht
                clear hx0 ho0 hv0 e4' hQe HO hpl hhl ht h8 hrl hqm
                go_wp2_with (with_reducible refine wpList_push _ rfl _ _ 79 rfl B 5 (.int .u8 0) 1 1 Try.underlying79 infoU8 rfl (by decide) a Q.length c _ rfl HHO0.out [.int .u8 0] rfl (by simp [Value.oneCell']) rfl hml hby hBz ?_; intro a5 c5 w5 hown5 hgrow5 hloc5 hsz5 hex5)
                rw [HX0.out] at hown5
                have HB5 := Lib.hid (below_blk HB.out HHO0.out (by rw [HBZ.out]; exact Nat.le_refl _) (by have := HB.out.size; omega) hgrow5)
                obtain ⟨gb, rfl⟩ : ∃ gb, a5 = some ⟨gb, 0, none⟩ := by
                  have ho : Owns w5 B 5 1 a5 (Q.length + 1) c5 (nvals .u8 (Q ++ [v])) := hown5
                  cases a5 with
                  | none => have h0 := ho.of_none.1; omega
                  | some z => exact ⟨z.block, by rw [← ho.row.1]⟩
                have ho : Owns w5 B 5 1 (some ⟨gb, 0, none⟩) (Q.length + 1) c5 (nvals .u8 (Q ++ [v])) := hown5
                clear hown5 hgrow5 hloc5 hsz5 hex5
                have e4 := HE40.out; have hrl := HRS.out; have hqm := HQM.out
                have hQ : (Q ++ [v]).length = Q.length + 1 := by simp
                have hcv := ho.cell Q.length (by rw [nvals_length, hQ]; omega)
                have hfv := ho.row.2.2.2.2.frozen0 Q.length (by rw [nvals_length, hQ]; omega)
                rw [nvals_get] at hcv
                have hvq : (Q ++ [v]).getD Q.length 0 = v := by rw [List.getD_eq_getElem?_getD, List.getElem?_append_right (Nat.le_refl _)]; simp
                rw [hvq] at hcv
                simp only at hcv hfv
                have hcs := (HR3.out.below HB5.out HR3.out.lt).int0 x (by rw [codes_length]; unfold ofInts; rw [List.length_map]; exact hxD)
                rw [HCD.out] at hcs
                have hsh1 : ((m : Int) - 1 - (j : Int)).toNat = m - 1 - j := by omega
                have hsh2 : ((7 : Int) - (t : Int)).toNat = 7 - t := by omega
                have hor := or8m t v y ht8 e2 e3
                have hHO := Lib.hid ho; have HE4 := Lib.hid e4
                have hwq := (wnat Q.length hqm).1
                have hwq2 := (wnat Q.length hqm).2
                have htm : ((R.length : Int)).tmod 8 = (t : Int) := by rw [Int.tmod_eq_emod_of_nonneg (by omega)]; exact hti
                have hwu8 : IntKind.u8.wrap ((b2n y : Nat) : Int) = ((b2n y : Nat) : Int) := by rw [IntKind.wrap_u8]; omega
                have hw7 : IntKind.i64.wrap (7 - (t : Int)) = 7 - (t : Int) := by rw [IntKind.wrap_i64]; omega
                have hn7 : ¬ (7 - (t : Int) < 0) := by omega
                have hqlt : (Q.length : Int) < (Q.length : Int) + 1 := by omega
                clear e2 e3 e4 hQ hvq ho
                go_wp2_with fail
                go_still_tail 22, (by kernel_rfl)
                change wpList _ _ _ _ _ (w5 : World).drew
                go_wp2_with fail
                go_roundw
                case rel =>
                  have hl1 : pb ++ (bitsOf m cc).take (j + 1) = R ++ [y] := by rw [hts, ← List.append_assoc, hR]
                  have hset := hHO.out.set Q.length (by rw [nvals_length]; simp) (.int .u8 ((v + b2n y * 2 ^ (7 - t) : Nat) : Int))
                  have hse : (nvals .u8 (Q ++ [v])).set Q.length (.int .u8 ((v + b2n y * 2 ^ (7 - t) : Nat) : Int)) = nvals .u8 (Q ++ [v + b2n y * 2 ^ (7 - t)]) := by
                    rw [nvals_set, List.set_append_right _ _ (Nat.le_refl _), Nat.sub_self]; rfl
                  rw [hse, ← HE4.out] at hset
                  have hln : (head l D ++ packBits (R ++ [y])).length = Q.length + 1 := by rw [HE4.out]; simp
                  have hr5 : wrap64 ((R.length : Int) + 1) = ((R ++ [y]).length : Int) := by
                    rw [List.length_append, List.length_singleton]
                    exact (wnat (R.length + 1) hrl).1
                  refine ⟨j + 1, some ⟨gb, 0, none⟩, c5, by omega, by congr 1; omega, ?_, ?_, ?_, ?_⟩
                  · first | rw [hl1, hr5] | (rw [hl1]; simp)
                  · rw [hl1, hln]
                  · rw [hl1, hln]
                    exact Lib.hid hset.drew
                  · exact Lib.hid (HB5.out.setCell (p := ⟨gb, Q.length, none⟩) (by have h1 : B ≤ gb := hHO.out.row.2.1; have h2 := HBZ.out; show w3.heap.size ≤ gb; omega) _).drew
                case measure => simp [intOf]; omega
              · have d1 : ((R.length : Int) % 8 == 0) = false := by rw [beq_eq_false_iff_ne]; omega
                obtain ⟨Q, v, e1, e3, e2, e4⟩ := pack_in (head l D) R y h8
                have ho := HO.out
                rw [e1] at ho hpl ⊢
                have hQ : (Q ++ [v]).length = Q.length + 1 := by simp
                rw [hQ] at ho hpl ⊢
                obtain ⟨gb, rfl⟩ : ∃ gb, a = some ⟨gb, 0, none⟩ := by
                  cases a with
                  | none => have h0 := ho.of_none.1; omega
                  | some z => exact ⟨z.block, by rw [← ho.row.1]⟩
                obtain ⟨t, ht⟩ : ∃ t, R.length % 8 = t := ⟨_, rfl⟩
                have ht8 : t < 8 := by omega
                have hti : (R.length : Int) % 8 = (t : Int) := by omega
                rw [ht] at e3 e4
                have hqm : Q.length ≤ 140737488355328 := by omega
                clear e1 HO hpl hhl
                have hcv := ho.cell Q.length (by rw [nvals_length, hQ]; omega)
                have hfv := ho.row.2.2.2.2.frozen0 Q.length (by rw [nvals_length, hQ]; omega)
                rw [nvals_get] at hcv
                have hvq : (Q ++ [v]).getD Q.length 0 = v := by rw [List.getD_eq_getElem?_getD, List.getElem?_append_right (Nat.le_refl _)]; simp
                rw [hvq] at hcv
                simp only at hcv hfv
                have hcs := (HR3.out.below HB.out HR3.out.lt).int0 x (by rw [codes_length]; unfold ofInts; rw [List.length_map]; exact hxD)
                rw [HCD.out] at hcs
                have hsh1 : ((m : Int) - 1 - (j : Int)).toNat = m - 1 - j := by omega
                have hsh2 : ((7 : Int) - (t : Int)).toNat = 7 - t := by omega
                have hor := or8m t v y ht8 e2 e3
                have hHO := Lib.hid ho; have HE4 := Lib.hid e4
                have hwq := (wnat Q.length hqm).1
                have hwq2 := (wnat Q.length hqm).2
                have htm : ((R.length : Int)).tmod 8 = (t : Int) := by rw [Int.tmod_eq_emod_of_nonneg (by omega)]; exact hti
                have hwu8 : IntKind.u8.wrap ((b2n y : Nat) : Int) = ((b2n y : Nat) : Int) := by rw [IntKind.wrap_u8]; omega
                have hw7 : IntKind.i64.wrap (7 - (t : Int)) = 7 - (t : Int) := by rw [IntKind.wrap_i64]; omega
                have hn7 : ¬ (7 - (t : Int) < 0) := by omega
                have hqlt : (Q.length : Int) < (Q.length : Int) + 1 := by omega
                clear e2 e3 e4 hQ hvq ho
                go_wp2_with fail
                go_still_tail 22, (by kernel_rfl)
                change wpList _ _ _ _ _ (wr : World).drew
                go_wp2_with fail
                go_roundw
                case rel =>
                  have hl1 : pb ++ (bitsOf m cc).take (j + 1) = R ++ [y] := by rw [hts, ← List.append_assoc, hR]
                  have hset := hHO.out.set Q.length (by rw [nvals_length]; simp) (.int .u8 ((v + b2n y * 2 ^ (7 - t) : Nat) : Int))
                  have hse : (nvals .u8 (Q ++ [v])).set Q.length (.int .u8 ((v + b2n y * 2 ^ (7 - t) : Nat) : Int)) = nvals .u8 (Q ++ [v + b2n y * 2 ^ (7 - t)]) := by
                    rw [nvals_set, List.set_append_right _ _ (Nat.le_refl _), Nat.sub_self]; rfl
                  rw [hse, ← HE4.out] at hset
                  have hln : (head l D ++ packBits (R ++ [y])).length = Q.length + 1 := by rw [HE4.out]; simp
                  have hr5 : wrap64 ((R.length : Int) + 1) = ((R ++ [y]).length : Int) := by
                    rw [List.length_append, List.length_singleton]
                    exact (wnat (R.length + 1) hrl).1
                  refine ⟨j + 1, some ⟨gb, 0, none⟩, c, by omega, by congr 1; omega, ?_, ?_, ?_, ?_⟩
                  · first | rw [hl1, hr5] | (rw [hl1]; simp)
                  · rw [hl1, hln]
                  · rw [hl1, hln]
                    exact Lib.hid hset.drew
                  · exact Lib.hid (HB.out.setCell (p := ⟨gb, Q.length, none⟩) (by have h1 : B ≤ gb := hHO.out.row.2.1; have h2 := HBZ.out; show w3.heap.size ≤ gb; omega) _).drew
                case measure => simp [intOf]; omega
            · obtain rfl : j = m := by omega
              have hk0 : decide ((0 : Int) ≤ (j : Int) - 1 - (j : Int)) = false := decide_eq_false (by omega)
              have hall : (bitsOf j cc).take j = bitsOf j cc := List.take_of_length_le (by rw [bitsOf_length]; exact Nat.le_refl _)
              rw [hall, ← HBS.out] at HO ⊢
              clear hall
              go_wp2_with fail
              go_roundw
              case rel => exact ⟨i + 1, a, c, by omega, by go_num, rfl, rfl, HO, HB⟩
              case measure => simp [intOf]; omega
        · obtain rfl : i = l.length := by omega
          have hd9 : decide ((l.length : Int) < (l.length : Int)) = false := by simp
          have hall : l.take l.length = l := List.take_length
          rw [hall, ← HP2.out] at HO ⊢
          have hcv := conv_ownH (nvals_bvals _ (packed_lt l) ▸ HO.out)
          clear hall
          go_wp2_with fail
          refine bodyPost_ret (v := .tuple #[.string (bstr ((packed l).map UInt8.ofNat)), .nilIface]) (by simp [results, Try.results39, go_sem]) rfl ?_
          exact ⟨rfl, HB3.out.trans (HB.out.mono HB3.out.size)⟩
end Go.Proofs.Ytenhblpegobbjaa
