/- Contract of package find: Like. -/
import Derived.Test.YtkahceijhokmoaaFindB
namespace Go.Proofs.Ytkahceijhokmoaa
open Go.RowKit
set_option linter.unusedVariables false
set_option linter.unusedSimpArgs false
theorem n64_bits (a b : Nat) (ha : a < 18446744073709551616) (hb : b < 18446744073709551616) : bits .and .u64 (a : Int) (b : Int) = ((a &&& b : Nat) : Int) ∧ bits .or .u64 (a : Int) (b : Int) = ((a ||| b : Nat) : Int) := by
  have h := bits_nat .u64 64 (by decide) (fun n h0 h1 => by rw [IntKind.wrap_u64]; omega) a b (by omega) (by omega)
  exact h
theorem i64_and15 (q : Nat) (h : q < 256) : bits .and .i64 (q : Int) 15 = ((q % 16 : Nat) : Int) := by
  have h' := (bits_nat .i64 63 (by decide) (fun n h0 h1 => by rw [IntKind.wrap_i64]; omega) q 15 (by omega) (by omega)).1
  have e : q &&& 15 = q % 16 := Nat.and_two_pow_sub_one_eq_mod q 4
  rw [e] at h'
  exact h'
theorem like_form (S X n : Nat) (hX : X < 18446744073709551616) :
    bits .and .u64 (bits .or .u64 (IntKind.u64.wrap ((S : Int) * 2)) 1) (X : Int) = ((((S * 2 % 18446744073709551616) ||| 1) &&& X : Nat) : Int) ∧
    (bits .and .u64 (bits .and .u64 (bits .or .u64 (IntKind.u64.wrap ((S : Int) * 2)) 1) (X : Int) / 2 ^ (n - 1)) 1 == 1) = (((S * 2 % 18446744073709551616) ||| 1) &&& X).testBit (n - 1) := by
  have e1 : IntKind.u64.wrap ((S : Int) * 2) = ((S * 2 % 18446744073709551616 : Nat) : Int) := by rw [IntKind.wrap_u64]; omega
  have hm : S * 2 % 18446744073709551616 < 18446744073709551616 := Nat.mod_lt _ (by decide)
  have e2 := (n64_bits (S * 2 % 18446744073709551616) 1 hm (by decide)).2
  have ho : (S * 2 % 18446744073709551616) ||| 1 < 18446744073709551616 := Nat.or_lt_two_pow (n := 64) hm (by decide)
  have e3 := (n64_bits ((S * 2 % 18446744073709551616) ||| 1) X ho hX).1
  have e : bits .and .u64 (bits .or .u64 (IntKind.u64.wrap ((S : Int) * 2)) 1) (X : Int) = ((((S * 2 % 18446744073709551616) ||| 1) &&& X : Nat) : Int) := by
    rw [e1]
    rw [show ((1 : Nat) : Int) = 1 from rfl] at e2
    rw [e2, e3]
  refine ⟨e, ?_⟩
  rw [e]
  have hlt : (((S * 2 % 18446744073709551616) ||| 1) &&& X) < 18446744073709551616 := Nat.lt_of_le_of_lt Nat.and_le_right hX
  generalize ((S * 2 % 18446744073709551616) ||| 1) &&& X = Y at *
  have hd : ((Y : Int) / 2 ^ (n - 1)) = ((Y / 2 ^ (n - 1) : Nat) : Int) := by simp
  have hd2 : Y / 2 ^ (n - 1) < 18446744073709551616 := Nat.lt_of_le_of_lt (Nat.div_le_self _ _) hlt
  have e4 := (n64_bits (Y / 2 ^ (n - 1)) 1 hd2 (by decide)).1
  rw [hd, show (1 : Int) = ((1 : Nat) : Int) from rfl, e4, Nat.testBit_eq_decide_div_mod_eq, Nat.and_one_is_mod, Bool.eq_iff_iff]
  simp only [beq_iff_eq, decide_eq_true_eq]
  omega
namespace Like
/-- the table on its way: at byte c, k half bytes in -/
def mayRow (M : List Int) (n c k : Nat) : List Nat := (List.range 256).map fun q => if q < c then may M n (UInt8.ofNat q) else if q = c then may M k (UInt8.ofNat q) else 0
theorem mayRow_length (M : List Int) (n c k : Nat) : (mayRow M n c k).length = 256 := by unfold mayRow; rw [List.length_map, List.length_range]
theorem mayRow_get (M : List Int) (n c k q : Nat) (hq : q < 256) : (mayRow M n c k).getD q 0 = if q < c then may M n (UInt8.ofNat q) else if q = c then may M k (UInt8.ofNat q) else 0 := by
  simp only [mayRow, List.getD_eq_getElem?_getD, List.getElem?_map, List.getElem?_range hq, Option.map_some, Option.getD_some]
theorem mayRow_start (M : List Int) (n : Nat) : mayRow M n 0 0 = List.replicate 256 0 := by
  apply List.ext_getElem (by rw [mayRow_length, List.length_replicate])
  intro q h1 h2
  simp only [mayRow, List.getElem_map, List.getElem_range, List.getElem_replicate]
  split
  · omega
  · split <;> rfl
theorem mayRow_next (M : List Int) (n c : Nat) : mayRow M n c n = mayRow M n (c + 1) 0 := by
  unfold mayRow
  apply List.map_congr_left
  intro q _
  rcases Nat.lt_trichotomy q c with h | h | h
  · rw [if_pos h, if_pos (by omega)]
  · subst h; rw [if_neg (by omega), if_pos rfl, if_pos (by omega)]
  · rw [if_neg (by omega), if_neg (by omega), if_neg (by omega)]
    split <;> rfl
theorem mayRow_set (M : List Int) (n c k : Nat) : (mayRow M n c k).set c (may M (k + 1) (UInt8.ofNat c)) = mayRow M n c (k + 1) := by
  apply List.ext_getElem (by rw [List.length_set, mayRow_length, mayRow_length])
  intro q h1 h2
  rw [List.getElem_set]
  simp only [mayRow, List.getElem_map, List.getElem_range]
  by_cases h : c = q
  · subst h; simp
  · rw [if_neg h]
    by_cases hq : q < c
    · rw [if_pos hq, if_pos hq]
    · rw [if_neg hq, if_neg (fun e => h e.symm), if_neg hq, if_neg (fun e => h e.symm)]
theorem mayRow_same (M : List Int) (n c k : Nat) (h : fits M k (UInt8.ofNat c) = false) : mayRow M n c (k + 1) = mayRow M n c k := by
  unfold mayRow
  apply List.map_congr_left
  intro q _
  by_cases hq : q < c
  · rw [if_pos hq, if_pos hq]
  · rw [if_neg hq, if_neg hq]
    by_cases hc : q = c
    · subst hc
      rw [if_pos rfl, if_pos rfl]
      simp [may, h]
    · rw [if_neg hc, if_neg hc]
theorem ofNat_toNat (c : Nat) (h : c < 256) : (UInt8.ofNat c).toNat = c := by simp; omega
end Like
theorem zero_may (w : World) : (zeroValue 58).run Try.prog w = .ok (.agg (nvals .u64 (List.replicate 256 0)).toArray) w := by kernel_rfl
set_option maxRecDepth 100000 in
set_option maxHeartbeats 2000000 in
theorem Like_any (s : ByteArray) (a : Option Addr) (c n : Nat) (M : List Int) (w : World) (hs : s.size ≤ 1000) (hM : M.length = 2 * n) (h1 : 1 ≤ n) (h64 : n ≤ 64) (ha : ReadsI w a M) (hab : ∀ x, a = some x → x.block < w.heap.size) :
    Calls Try.prog 12 #[.string s, .slice a (2 * n) c] w fun e w' => ∃ a' cap,
      e = .returned (.tuple #[.slice a' (Like.occ M n s.data.toList s.size).length cap, .nilIface]) ∧
      Owns w' w.heap.size 3 1 a' (Like.occ M n s.data.toList s.size).length cap (ivals ((Like.occ M n s.data.toList s.size).map fun (i : Nat) => (i : Int))) ∧ Below w.heap.size w w' := by
  have hsl : s.data.toList.length = s.size := data_length s
  obtain ⟨l, hl⟩ : ∃ l, l = s.data.toList := ⟨_, rfl⟩
  rw [← hl] at hsl ⊢
  have HL := Lib.hid hl; clear hl
  have HSL := Lib.hid hsl; clear hsl
  have HM := Lib.hid hM; clear hM
  have HA := Lib.hid ha; clear ha
  have hn2 : (2 * (n : Int)) / 2 = (n : Int) := by omega
  have e1 : ((n : Int) == 0) = false := by rw [beq_eq_false_iff_ne]; omega
  have e2 : decide ((64 : Int) < (n : Int)) = false := by rw [decide_eq_false_iff_not]; omega
  have e3 : ((2 * (n : Int)) % 2 == 1) = false := by rw [beq_eq_false_iff_ne]; omega
  have e4 : (2 * (n : Int)) % 2 = 0 := by omega
  have e5 : ((2 * n : Nat) : Int) = 2 * (n : Int) := by omega
  have hz := zero_may
  obtain ⟨Z, hZ⟩ : ∃ Z, Z = (nvals .u64 (List.replicate 256 0)).toArray := ⟨_, rfl⟩
  rw [← hZ] at hz
  have HZ := Lib.hid hZ; clear hZ
  go_enter Try.func12, Try.ntmps12
  go_wp2_with fail
  have hrow0 := RowAt.new w 58 Z
  have hb0 := (Below.refl w.heap.size w).alloc (Nat.le_refl _) (.cells Z 58)
  have hzl : Z.toList = nvals .u64 (Like.mayRow M n 0 0) := by rw [HZ.out, Like.mayRow_start]
  rw [hzl] at hrow0
  clear hzl
  generalize w.alloc (.cells Z 58) = w0 at *
  generalize hg : w.heap.size = g at *
  have HG := Lib.hid hg; clear hg
  clear hz HZ
  go_loopw [31] (fun i wr => ∃ q : Nat, q ≤ 256 ∧ i = .int .i64 q ∧ RowAt wr g 0 58 (nvals .u64 (Like.mayRow M n q 0)) ∧ Below g w wr) (fun i _ => 256 - (intOf i).toNat)
  case atStart => exact ⟨0, by omega, rfl, hrow0, hb0⟩
  case round =>
    clear hrow0 hb0
    obtain ⟨q, hq, rfl, hrow, hb⟩ := hrel
    by_cases hlt : q < 256
    · have hkq : decide ((q : Int) < 256) = true := by rw [decide_eq_true_eq]; omega
      have hkqI : (q : Int) < 256 := by omega
      go_wp2_with fail
      obtain ⟨wo, rfl⟩ : ∃ wo : World, wo = wr := ⟨_, rfl⟩
      go_loopw [35] (fun i wr => ∃ k : Nat, k ≤ n ∧ i = .int .i64 k ∧ RowAt wr g 0 58 (nvals .u64 (Like.mayRow M n q k)) ∧ Below g w wr) (fun i _ => n - (intOf i).toNat)
      case atStart => exact ⟨0, by omega, rfl, hrow, hb⟩
      case round =>
        clear hrow hb
        obtain ⟨k, hk, rfl, hrow, hb⟩ := hrel
        by_cases hkn : k < n
        · obtain ⟨ga, oa, rfl, hc⟩ := HA.out.pos (by rw [HM.out]; omega)
          have hgb := hab _ rfl
          have hgb : ga < g := hgb
          have hc1 := hc (2 * k) (by rw [HM.out]; omega)
          have hc2 := hc (2 * k + 1) (by rw [HM.out]; omega)
          rw [← hb.cell (p := ⟨ga, oa + 2 * k, none⟩) hgb] at hc1
          rw [← hb.cell (p := ⟨ga, oa + (2 * k + 1), none⟩) hgb] at hc2
          clear hc
          generalize hhi : M.getD (2 * k) 0 = hi at *
          generalize hlo : M.getD (2 * k + 1) 0 = lo at *
          have HHI := Lib.hid hhi; clear hhi
          have HLO := Lib.hid hlo; clear hlo
          have h15 := i64_and15 q hlt
          have hft : Like.fits M k (UInt8.ofNat q) = ((decide (hi < 0) || (hi == (q : Int) / 16)) && (decide (lo < 0) || (lo == bits .and .i64 (q : Int) 15))) := by
            unfold Like.fits Like.half
            rw [HHI.out, HLO.out, Like.ofNat_toNat q hlt, h15]
            rfl
          have hkn' : (k : Int) < (n : Int) := by omega
          have hk64 : (k : Int) < 64 := by omega
          clear h15 HHI HLO
          have hmr := Like.mayRow_get M n q k q hlt
          rw [if_neg (by omega), if_pos rfl] at hmr
          have hml := Like.may_lt M (UInt8.ofNat q) k
          have hml2 : 2 ^ k ≤ 2 ^ 63 := Nat.pow_le_pow_right (by decide) (by omega)
          have hc3 := hrow.num0 q (by rw [Like.mayRow_length]; exact hlt)
          have hf3 := hrow.frozen0 q (by rw [nvals_length, Like.mayRow_length]; exact hlt)
          rw [hmr] at hc3
          have HMR := Lib.hid hmr; clear hmr
          have hnat : ∀ x, x < 2 ^ k → bits .or .u64 ((x : Nat) : Int) (IntKind.u64.wrap ((2 : Int) ^ k)) = ((x ||| 2 ^ k : Nat) : Int) := by
            intro x hx
            have := (n64_bits x (2 ^ k) (by omega) (by omega)).2
            have e : IntKind.u64.wrap ((2 : Int) ^ k) = ((2 ^ k : Nat) : Int) := by
              rw [IntKind.wrap_u64, show ((2 : Int) ^ k) = ((2 ^ k : Nat) : Int) from by simp]; omega
            rw [e]; exact this
          have hmay : Like.fits M k (UInt8.ofNat q) = true → Like.may M (k + 1) (UInt8.ofNat q) = Like.may M k (UInt8.ofNat q) ||| 2 ^ k := fun h => by simp [Like.may, h]
          have hno := Like.mayRow_same M n q k
          have hset := Like.mayRow_set M n q k
          have HNAT := Lib.hid hnat; clear hnat
          have HSET := Lib.hid hset; clear hset
          generalize hmm : Like.may M k (UInt8.ofNat q) = mm at *
          have HMM := Lib.hid hmm; clear hmm
          have HML := Lib.hid hml; clear hml
          clear hml2
          generalize hmm' : Like.may M (k + 1) (UInt8.ofNat q) = mm' at *
          have HMM' := Lib.hid hmm'; clear hmm'
          generalize hff : Like.fits M k (UInt8.ofNat q) = ff at *
          have HFF := Lib.hid hff; clear hff
          have HMAY := Lib.hid hmay; clear hmay
          have HNO := Lib.hid hno; clear hno
          have HFT := Lib.hid hft; clear hft
          have hgq := hrow.lt
          rcases Int.lt_or_le hi 0 with ha1 | ha1
          · have ha2 : decide (hi < 0) = true := by rw [decide_eq_true_eq]; exact ha1
            rcases Int.lt_or_le lo 0 with hb1 | hb1
            · have hff : ff = true := by
                rw [HFT.out, ha2, decide_eq_true hb1]; rfl
              subst hff
              go_wp2_with fail
              go_quiet (fail)
              go_wp2_with fail
              go_region
              all_goals go_wp2_with fail
              go_roundw
              case rel =>
                refine ⟨k + 1, by omega, by go_num, ?_, (bdrewN hb _).setCell (p := ⟨g, q, none⟩) (Nat.le_refl g) _⟩
                rw [HNAT.out mm HML.out]
                have hs := (hrow.drewN (nq + 1)).setNum q (mm ||| 2 ^ k) (by rw [Like.mayRow_length]; exact hlt)
                rw [← HMAY.out trivial, HSET.out] at hs
                rw [← HMAY.out trivial]
                exact hs
              case measure => simp [intOf]; omega
            · have hb2 : decide (lo < 0) = false := by rw [decide_eq_false_iff_not]; omega
              cases hb3 : (lo == bits .and .i64 (q : Int) 15) with
              | true =>
                have hff : ff = true := by
                  rw [HFT.out, ha2, hb2, hb3]; rfl
                subst hff
                go_wp2_with fail
                go_quiet (fail)
                go_wp2_with fail
                go_region
                all_goals go_wp2_with fail
                go_roundw
                case rel =>
                  refine ⟨k + 1, by omega, by go_num, ?_, (bdrewN hb _).setCell (p := ⟨g, q, none⟩) (Nat.le_refl g) _⟩
                  rw [HNAT.out mm HML.out]
                  have hs := (hrow.drewN (nq + 1)).setNum q (mm ||| 2 ^ k) (by rw [Like.mayRow_length]; exact hlt)
                  rw [← HMAY.out trivial, HSET.out] at hs
                  rw [← HMAY.out trivial]
                  exact hs
                case measure => simp [intOf]; omega
              | false =>
                have hff : ff = false := by
                  rw [HFT.out, ha2, hb2, hb3]; rfl
                subst hff
                go_wp2_with fail
                go_quiet (fail)
                go_wp2_with fail
                go_roundw
                case rel => exact ⟨k + 1, by omega, by go_num, by rw [HNO.out trivial]; exact hrow.drewN _, bdrewN hb _⟩
                case measure => simp [intOf]; omega
          · have ha2 : decide (hi < 0) = false := by rw [decide_eq_false_iff_not]; omega
            cases ha3 : (hi == (q : Int) / 16) with
            | true =>
              rcases Int.lt_or_le lo 0 with hb1 | hb1
              · have hff : ff = true := by
                  rw [HFT.out, ha2, ha3, decide_eq_true hb1]; rfl
                subst hff
                go_wp2_with fail
                go_quiet (fail)
                go_wp2_with fail
                go_region
                all_goals go_wp2_with fail
                go_roundw
                case rel =>
                  refine ⟨k + 1, by omega, by go_num, ?_, (bdrewN hb _).setCell (p := ⟨g, q, none⟩) (Nat.le_refl g) _⟩
                  rw [HNAT.out mm HML.out]
                  have hs := (hrow.drewN (nq + 1)).setNum q (mm ||| 2 ^ k) (by rw [Like.mayRow_length]; exact hlt)
                  rw [← HMAY.out trivial, HSET.out] at hs
                  rw [← HMAY.out trivial]
                  exact hs
                case measure => simp [intOf]; omega
              · have hb2 : decide (lo < 0) = false := by rw [decide_eq_false_iff_not]; omega
                cases hb3 : (lo == bits .and .i64 (q : Int) 15) with
                | true =>
                  have hff : ff = true := by
                    rw [HFT.out, ha2, ha3, hb2, hb3]; rfl
                  subst hff
                  go_wp2_with fail
                  go_quiet (fail)
                  go_wp2_with fail
                  go_region
                  all_goals go_wp2_with fail
                  go_roundw
                  case rel =>
                    refine ⟨k + 1, by omega, by go_num, ?_, (bdrewN hb _).setCell (p := ⟨g, q, none⟩) (Nat.le_refl g) _⟩
                    rw [HNAT.out mm HML.out]
                    have hs := (hrow.drewN (nq + 1)).setNum q (mm ||| 2 ^ k) (by rw [Like.mayRow_length]; exact hlt)
                    rw [← HMAY.out trivial, HSET.out] at hs
                    rw [← HMAY.out trivial]
                    exact hs
                  case measure => simp [intOf]; omega
                | false =>
                  have hff : ff = false := by
                    rw [HFT.out, ha2, ha3, hb2, hb3]; rfl
                  subst hff
                  go_wp2_with fail
                  go_quiet (fail)
                  go_wp2_with fail
                  go_roundw
                  case rel => exact ⟨k + 1, by omega, by go_num, by rw [HNO.out trivial]; exact hrow.drewN _, bdrewN hb _⟩
                  case measure => simp [intOf]; omega
            | false =>
              have hff : ff = false := by
                rw [HFT.out, ha2, ha3]; rfl
              subst hff
              go_wp2_with fail
              go_quiet (fail)
              go_wp2_with fail
              go_roundw
              case rel => exact ⟨k + 1, by omega, by go_num, by rw [HNO.out trivial]; exact hrow.drewN _, bdrewN hb _⟩
              case measure => simp [intOf]; omega
        · obtain rfl : k = n := by omega
          rw [Like.mayRow_next] at hrow
          have hd : decide ((k : Int) < (k : Int)) = false := by simp
          go_wp2_with fail
          go_roundw
          case rel => exact ⟨q + 1, by omega, by go_num, hrow, hb⟩
          case measure => simp [intOf]; omega
    · have hq256 : q = 256 := by omega
      have hd : decide ((q : Int) < 256) = false := by rw [decide_eq_false_iff_not]; omega
      have hmayget : ∀ c : UInt8, (Like.mayRow M n q 0).getD c.toNat 0 = Like.may M n c := by
        intro c
        have hc := UInt8.toNat_lt c
        rw [Like.mayRow_get _ _ _ _ _ (by omega), if_pos (by omega)]
        congr 1
        simp
      clear hq256 hlt hq
      have HMG := Lib.hid hmayget; clear hmayget
      go_wp2_with fail
      obtain ⟨wo, rfl⟩ : ∃ wo : World, wo = wr := ⟨_, rfl⟩
      obtain ⟨q0, rfl⟩ : ∃ q0, q0 = q := ⟨_, rfl⟩
      generalize hR : nvals .u64 (Like.mayRow M n q0 0) = R at *
      have HR := Lib.hid hR; clear hR
      go_loopw [12, 13, 78] (fun out st i wr => ∃ (q : Nat) (a' : Option Addr) (cap : Nat), q ≤ s.size ∧ i = .int .i64 q ∧ st = .int .u64 (Like.state M n l q : Nat) ∧ out = .slice a' (Like.occ M n l q).length cap ∧
          Owns wr (g + 1) 3 1 a' (Like.occ M n l q).length cap (ivals ((Like.occ M n l q).map fun (i : Nat) => (i : Int))) ∧ RowAt wr g 0 58 R ∧ Below g w wr) (fun _ _ i _ => s.size - (intOf i).toNat)
      case atStart => exact ⟨0, none, 0, by omega, rfl, rfl, rfl, Owns.nil _ _ _ _, hrow, hb⟩
      case round =>
        clear hrow hb
        obtain ⟨q, a', cap, hq, rfl, rfl, rfl, hown, hrow, hb⟩ := hrel
        have hlg := hrow.lt
        by_cases hlt : q < s.size
        · have hqI : (q : Int) < (s.size : Int) := by omega
          have hbq : s[q] = l.getD q 0 := by rw [byteAt s q hlt, HL.out]
          have hb8 : s[q].toNat < 256 := UInt8.toNat_lt _
          have hc := hrow.cell0 s[q].toNat (by rw [← HR.out, nvals_length, Like.mayRow_length]; exact hb8)
          have hmg := HMG.out s[q]
          have hst : Like.state M n l (q + 1) = ((Like.state M n l q * 2 % 18446744073709551616) ||| 1) &&& Like.may M n s[q] := by rw [hbq]; rfl
          have hX : R[s[q].toNat]'(by rw [← HR.out, nvals_length, Like.mayRow_length]; exact hb8) = .int .u64 (Like.may M n s[q] : Nat) := by
            have := nvals_get .u64 (Like.mayRow M n q0 0) s[q].toNat (by rw [nvals_length, Like.mayRow_length]; exact hb8)
            rw [hmg] at this
            rw [← this]
            congr 1
            exact HR.out.symm
          rw [hX] at hc
          clear hX hmg hbq
          have HST := Lib.hid hst; clear hst
          have hol := Like.occ_length M n l q
          have hsl := Like.state_lt M n l q h64
          generalize hO : Like.occ M n l q = O at *
          generalize hS : Like.state M n l q = S at *
          generalize hX : Like.may M n s[q] = X at *
          have HO := Lib.hid hO; clear hO
          have HS := Lib.hid hS; clear hS
          have HX := Lib.hid hX; clear hX
          have hn1 : (1 : Int) ≤ (n : Int) := by omega
          have hn1 : (n : Int) ≤ 64 := by omega
          have hXl : X < 18446744073709551616 := by
            have h1 := Like.may_lt M s[q] n
            have h2 : 2 ^ n ≤ 2 ^ 64 := Nat.pow_le_pow_right (by decide) h64
            rw [HX.out] at h1; omega
          obtain ⟨hf1, hf2⟩ := like_form S X n hXl
          rw [← HST.out] at hf1 hf2
          have HF1 := Lib.hid hf1; clear hf1
          have hyes := Like.occ_yes M n l q
          have hno := Like.occ_no M n l q
          rw [HO.out] at hyes hno
          have HYES := Lib.hid hyes; clear hyes
          have HNO := Lib.hid hno; clear hno
          by_cases hbit : (Like.state M n l (q + 1)).testBit (n - 1) = true
          · rw [hbit] at hf2
            have hng := HYES.out hbit
            have HN := Lib.hid hng; clear hng
            have hnq : n ≤ q + 1 := by
              rw [Like.state_bit M n l h64 (q + 1) (n - 1) (by omega)] at hbit
              simp only [Bool.and_eq_true, decide_eq_true_eq] at hbit
              omega
            clear hbit
            have hlg' : g + 1 ≤ wr.heap.size := hlg
            go_wp2_with (with_reducible refine wpList_push _ rfl _ _ 32 rfl (g + 1) 3 (.int .i64 0) 1 8 Try.underlying32 infoInt rfl (by decide) a' O.length cap _ rfl hown [.int .i64 ((q : Int) + 1 - (n : Int))] rfl (by simp [Value.oneCell']) rfl (by unfold maxLen; omega) (by omega) hlg' ?_; intro a'' cap' w' hown' hgrow hloc hsz' hex)
            go_wp2_with fail
            have hx : ((q : Int) + 1 - (n : Int)) = ((q + 1 - n : Nat) : Int) := by omega
            have hlen' : (O ++ [q + 1 - n]).length = O.length + 1 := by simp
            go_roundw
            case rel =>
              refine ⟨q + 1, a'', cap', by omega, by go_num, by rw [HF1.out], by rw [HN.out, hlen'], ?_, hrow.blk hown hgrow (by omega), below_blk hb hown (by omega) (by omega) hgrow⟩
              rw [HN.out, hlen', List.map_append, List.map_singleton, ← hx, ← ivals_snoc]
              exact hown'
            case measure => simp [intOf]; omega
          · have hbit := Bool.eq_false_iff.2 hbit
            rw [hbit] at hf2
            have hng := HNO.out hbit
            have HN := Lib.hid hng; clear hng hbit
            go_wp2_with fail
            go_roundw
            case rel => exact ⟨q + 1, a', cap, by omega, by go_num, by rw [HF1.out], by rw [HN.out], by rw [HN.out]; exact hown, hrow, hb⟩
            case measure => simp [intOf]; omega
        · obtain rfl : q = s.size := by omega
          have hd : decide ((s.size : Int) < (s.size : Int)) = false := by simp
          go_wp2_with fail
          go_ret2
          rw [HG.out]
          exact ⟨a', cap, rfl, hown.mono (by omega), hb⟩
end Go.Proofs.Ytkahceijhokmoaa
