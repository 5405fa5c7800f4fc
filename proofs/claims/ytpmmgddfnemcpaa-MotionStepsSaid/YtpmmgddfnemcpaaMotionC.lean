/- The law MotionSteps. -/
import Derived.Test.YtpmmgddfnemcpaaMotionB
import Derived.Test.YtpmmgddfnemcpaaPick
namespace Go.Proofs.Ytpmmgddfnemcpaa
open Go.RowKit
set_option linter.unusedVariables false
set_option linter.unusedSimpArgs false
def plCells (s : ByteArray) (a : Int) : List Value := [.string s, .int .i64 a, .slice none 0 0, .map none, .slice none 0 0]
theorem PlAt.of {w : World} {g : Nat} {e : TypeId} {s : ByteArray} {a : Int} (h : RowAt w g 0 e (plCells s a)) : PlAt w g s a :=
  ⟨h.cell0 0 (by simp [plCells]), h.cell0 1 (by simp [plCells]), h.cell0 2 (by simp [plCells]), h.cell0 3 (by simp [plCells]), h.cell0 4 (by simp [plCells])⟩
theorem key_index (ix : Nat) (h : ix < 6) : ∃ m, IsKey m ∧ ∀ w : World, (Instr.index 9 (.string ⟨#[104, 108, 119, 98, 106, 107]⟩) (.int .i64 (ix : Nat))).run Try.prog w = .ok (.int .u8 (m : Nat)) w := by
  have : ix = 0 ∨ ix = 1 ∨ ix = 2 ∨ ix = 3 ∨ ix = 4 ∨ ix = 5 := by omega
  rcases this with rfl | rfl | rfl | rfl | rfl | rfl
  · exact ⟨104, .inl rfl, fun _ => by kernel_rfl⟩
  · exact ⟨108, .inr (.inl rfl), fun _ => by kernel_rfl⟩
  · exact ⟨119, .inr (.inr (.inl rfl)), fun _ => by kernel_rfl⟩
  · exact ⟨98, .inr (.inr (.inr (.inl rfl))), fun _ => by kernel_rfl⟩
  · exact ⟨106, .inr (.inr (.inr (.inr (.inl rfl)))), fun _ => by kernel_rfl⟩
  · exact ⟨107, .inr (.inr (.inr (.inr (.inr rfl)))), fun _ => by kernel_rfl⟩
set_option maxRecDepth 100000 in
set_option maxHeartbeats 2000000 in
theorem MotionSteps_walk (s : ByteArray) (at_ n : Int) (mv : Nat) (hs : s.size ≤ 140737488351232) (ha1 : -9223372036854775808 ≤ at_) (ha2 : at_ ≤ 9223372036854775807) (hn1 : -9223372036854775808 ≤ n) (hn2 : n ≤ 9223372036854775807) (hmv : mv < 256) (w : World) :
    Calls Try.prog 6 #[.string s, .int .i64 at_, .int .i64 n, .int .u8 (mv : Nat)] w fun e w' => e = .returned (.bool true) ∧ Below w.heap.size w w' := by
  by_cases h0 : s.size = 0
  · have hemp : s.toList.isEmpty = true := by
      rw [ByteArray.toList_eq]
      cases h : s.data.toList with
      | nil => rfl
      | cons x l => have := data_length s; rw [h] at this; simp at this; omega
    clear h0
    go_enter Try.func6, Try.ntmps6
    go_wp2_with fail
    refine (gone_any _).mono ?_
    rintro e w1 ⟨rfl, hb1⟩
    go_wp2_with fail
    go_ret
    exact ⟨rfl, hb1⟩
  have hemp : s.toList.isEmpty = false := by
    rw [ByteArray.toList_eq]
    cases h : s.data.toList with
    | nil => have := data_length s; rw [h] at this; simp at this; omega
    | cons x l => rfl
  by_cases h300 : 300 < s.size
  · have hd1 : decide ((300 : Int) < (s.size : Int)) = true := by rw [decide_eq_true_eq]; omega
    clear h0
    go_enter Try.func6, Try.ntmps6
    go_wp2_with fail
    refine (gone_any _).mono ?_
    rintro e w1 ⟨rfl, hb1⟩
    go_wp2_with fail
    go_ret
    exact ⟨rfl, hb1⟩
  have hd1 : decide ((300 : Int) < (s.size : Int)) = false := by rw [decide_eq_false_iff_not]; omega
  have hs1 : 1 ≤ s.size := by omega
  have hs300 : s.size ≤ 300 := by omega
  clear h0 h300
  obtain ⟨m, hm, hidx⟩ := key_index (pickN (mv : Int) 6) (pickN_lt _ _ (by decide))
  have hp1 := fun w => pick_at (mv : Int) 6 6 w rfl (by decide) (by decide)
  have hp2 := fun w => pick_at n 9 9 w rfl (by decide) (by decide)
  have hp3 := fun w => pick_at at_ (s.size : Nat) s.size w rfl hs1 (by omega)
  have hn9 := pickN_lt n 9 (by decide)
  have has := pickN_lt at_ s.size hs1
  generalize pickN (mv : Int) 6 = ix at *
  generalize pickN n 9 = n0 at *
  generalize pickN at_ s.size = a at *
  have HP1 := Lib.hid hp1; clear hp1
  have HP2 := Lib.hid hp2; clear hp2
  have HP3 := Lib.hid hp3; clear hp3
  have hal : (a : Int) ≤ ((s.size - 1 : Nat) : Int) := by omega
  obtain ⟨N, hN⟩ : ∃ N, N = n0 + 1 := ⟨_, rfl⟩
  have hNI : (1 : Int) + (n0 : Int) = (N : Int) := by omega
  have hN9 : N ≤ 9 := by omega
  have hN1 : 1 ≤ N := by omega
  have HNI := Lib.hid hNI; clear hNI hN
  have hst := fun k hk => at_next m s.size hm (a : Int) k (by omega) hal hk
  have hab := fun k => at_bound m s.size hm (a : Int) k (by omega) hal
  have HST := Lib.hid hst; clear hst
  have HAB := Lib.hid hab; clear hab
  have hgo0 := fun x w (h0 : 0 ≤ x) (h1 : x ≤ 1000) => Go_0 s x ByteArray.empty none 0 0 none none 0 0 w h0 h1
  have HGO0 := Lib.hid hgo0; clear hgo0
  cases hto : stp m s.size (a : Int) (N : Int) with
  | some tx =>
    have hok : ∀ j : Nat, 1 ≤ j → j ≤ N → stp m s.size (a : Int) (j : Int) ≠ none := by
      intro j h1 h2 h3
      have := stp_none m s.size hm (a : Int) (j : Int) (N : Int) (by omega) h3
      rw [this] at hto
      cases hto
    have HOK := Lib.hid hok; clear hok
    have hbig := fun w => Go_ok m hm tx s (a : Int) (N : Int) ByteArray.empty none 0 0 none none 0 0 w (by omega) (by omega) hal (by omega) (by omega) hto
    have HBIG := Lib.hid hbig; clear hbig
    have HTO := Lib.hid hto; clear hto
    go_enter Try.func6, Try.ntmps6
    go_wp2_with fail
    refine (gone_any _).mono ?_
    rintro e w1 ⟨rfl, hb1⟩
    go_wp2_with fail
    refine (HP1.out _).mono ?_
    rintro e w2 ⟨rfl, rfl⟩
    go_wp2_with fail
    refine (HP2.out _).mono ?_
    rintro e w2 ⟨rfl, rfl⟩
    go_wp2_with fail
    refine (HP3.out _).mono ?_
    rintro e w2 ⟨rfl, rfl⟩
    go_wp2_with fail
    rw [HNI.out]
    refine (HBIG.out _).mono ?_
    rintro e w2 ⟨rfl, hb2⟩
    have hbx := hb1.alloc hb1.size (.cells #[.string s, .int .i64 (a : Nat), .slice none 0 0, .map none, .slice none 0 0] 51)
    have hrp := RowAt.new w1 51 #[.string s, .int .i64 (a : Nat), .slice none 0 0, .map none, .slice none 0 0]
    replace hrp : RowAt w2 w1.heap.size 0 51 (plCells s (a : Nat)) := hrp.below hb2 (by simp)
    have hg1 : w1.heap.size < w2.heap.size := by have := hb2.size; simp at this; omega
    have hgw : w.heap.size ≤ w1.heap.size := hb1.size
    replace hbx := hbx.trans (hb2.mono hbx.size)
    clear hb1 hb2
    generalize w1.heap.size = gp at *
    obtain ⟨c0, c1, c2, c3, c4⟩ := PlAt.of hrp
    go_wp2_with fail
    clear c0 c1 c2 c3 c4
    have hrq := RowAt.new w2 51 #[.string s, .int .i64 (a : Nat), .slice none 0 0, .map none, .slice none 0 0]
    replace hrq : RowAt _ w2.heap.size 0 51 (plCells s (a : Nat)) := hrq
    replace hrp := hrp.alloc (.cells #[.string s, .int .i64 (a : Nat), .slice none 0 0, .map none, .slice none 0 0] 51)
    replace hbx := hbx.alloc hbx.size (.cells #[.string s, .int .i64 (a : Nat), .slice none 0 0, .map none, .slice none 0 0] 51)
    generalize w2.alloc (.cells #[.string s, .int .i64 (a : Nat), .slice none 0 0, .map none, .slice none 0 0] 51) = w3 at *
    generalize w2.heap.size = gq at *
    have hne : gp ≠ gq := by omega
    have hgqw : w.heap.size ≤ gq := by omega
    go_loopw [15] (fun i wr => ∃ k : Nat, k ≤ N ∧ i = .int .i64 k ∧ Hid (RowAt wr gq 0 51 (plCells s (at_k m s.size (a : Int) k))) ∧ Hid (RowAt wr gp 0 51 (plCells s (a : Nat))) ∧ Below w.heap.size w wr) (fun i _ => N - (intOf i).toNat)
    case atStart => exact ⟨0, by omega, rfl, by have h : at_k m s.size (a : Int) 0 = (a : Int) := rfl; rw [h]; exact hrq, hrp, hbx⟩
    case round =>
      clear hrq hrp hbx
      obtain ⟨k, hk, rfl, HRQ, HRP, hb⟩ := hrel
      have hkb := HAB.out k
      obtain ⟨c0, c1, c2, c3, c4⟩ := PlAt.of HRQ.out
      have hfz := HRQ.out.frozen0 1 (by simp [plCells])
      have hql := HRQ.out.lt
      by_cases hlt : k < N
      · have hkI : (k : Int) < (N : Int) := by omega
        have hnx := HST.out k (fun j h1 h2 => HOK.out j h1 (by omega))
        have hxs : stp m s.size (a : Int) ((k : Int) + 1) = some (at_k m s.size (a : Int) (k + 1)) := by
          have h1 := HOK.out (k + 1) (by omega) (by omega)
          unfold at_k
          rw [if_neg (by omega)]
          rw [show ((k + 1 : Nat) : Int) = (k : Int) + 1 from by omega] at h1 ⊢
          cases h2 : stp m s.size (a : Int) ((k : Int) + 1) with
          | none => exact absurd h2 h1
          | some x => rfl
        rw [hxs] at hnx
        have hone := fun w => Go_ok m hm _ s _ 1 ByteArray.empty none 0 0 none none 0 0 w (by omega) hkb.1 hkb.2 (by decide) (by decide) hnx
        have HONE := Lib.hid hone; clear hone hnx hxs
        generalize hyy : at_k m s.size (a : Int) (k + 1) = y at *
        have HYY := Lib.hid hyy; clear hyy
        generalize hxx : at_k m s.size (a : Int) k = x at *
        have HXX := Lib.hid hxx; clear hxx
        go_wp2_with fail
        refine (HONE.out _).mono ?_
        rintro e w4 ⟨rfl, hb4⟩
        have hrq4 := HRQ.out.below hb4 hql
        have hrp4 := HRP.out.below hb4 HRP.out.lt
        replace hb := hb.trans (hb4.mono hb.size)
        clear c0 c1 c2 c3 c4 hfz
        obtain ⟨c0, c1, c2, c3, c4⟩ := PlAt.of hrq4
        have hfz := hrq4.frozen0 1 (by simp [plCells])
        go_wp2_with fail
        go_roundw
        case rel => exact ⟨k + 1, by omega, by go_num, by rw [HYY.out]; exact hrq4.set0 1 (by simp [plCells]) (.int .i64 y), hrp4.far (p := ⟨gq, 1, none⟩) hne _, hb.setCell (p := ⟨gq, 1, none⟩) hgqw _⟩
        case measure => simp [intOf]; omega
      · obtain rfl : k = N := by omega
        have hxe : at_k m s.size (a : Int) k = tx := by
          unfold at_k
          rw [if_neg (by omega), HTO.out]; rfl
        rw [hxe] at c1
        have HRQ2 : Hid (RowAt wr gq 0 51 (plCells s tx)) := by rw [← hxe]; exact HRQ
        clear HRQ hkb hxe
        have hdd : decide ((k : Int) < (k : Int)) = false := by simp
        have hnn : (tx != tx) = false := by simp
        obtain ⟨d0, d1, d2, d3, d4⟩ := PlAt.of HRP.out
        go_wp2_with fail
        refine (HGO0.out (a : Int) _ (by omega) (by omega)).mono ?_
        rintro e w4 ⟨rfl, hb4⟩
        have hrq4 := HRQ2.out.below hb4 hql
        have hrp4 := HRP.out.below hb4 HRP.out.lt
        replace hb := hb.trans (hb4.mono hb.size)
        clear c0 c1 c2 c3 c4 d0 d1 d2 d3 d4 hfz
        have hfz := hrq4.frozen0 1 (by simp [plCells])
        obtain ⟨c0, c1, c2, c3, c4⟩ := PlAt.of hrq4
        have hq5 : RowAt _ gq 0 51 (plCells s ((a : Int) - (a : Int) % 16)) := hrq4.set0 1 (by simp [plCells]) (.int .i64 ((a : Int) - (a : Int) % 16))
        have hp5 := hrp4.far (p := ⟨gq, 1, none⟩) hne (.int .i64 ((a : Int) - (a : Int) % 16))
        have hb5 := hb.setCell (p := ⟨gq, 1, none⟩) hgqw (.int .i64 ((a : Int) - (a : Int) % 16))
        have HP5 := Lib.hid hp5; clear hp5
        have HQ5 := Lib.hid hq5; clear hq5
        have hql4 := hrq4.lt
        have hm16 : (a : Int) % 16 < 16 := by omega
        have hm160 : (0 : Int) ≤ (a : Int) % 16 := by omega
        have hr0 : ((a : Int) - (a : Int) % 16) % 16 = 0 := by omega
        have hr1 : (0 : Int) ≤ (a : Int) - (a : Int) % 16 := by omega
        have hr2 : (a : Int) - (a : Int) % 16 ≤ (a : Int) := by omega
        have hgo := fun w => HGO0.out ((a : Int) - (a : Int) % 16) w hr1 (by omega)
        rw [hr0, Int.sub_zero] at hgo
        have hmod : (((a : Int) - (a : Int) % 16) % 16 == 0) = true := by rw [hr0]; rfl
        have hself : ((a : Int) - (a : Int) % 16 == (a : Int) - (a : Int) % 16) = true := by simp
        clear hr0
        generalize (a : Int) - (a : Int) % 16 = x at *
        have HGO := Lib.hid hgo; clear hgo
        go_wp2_with fail
        refine (HGO.out _).mono ?_
        rintro e w5 ⟨rfl, hb6⟩
        obtain ⟨d0, d1, d2, d3, d4⟩ := PlAt.of (HP5.out.below hb6 HP5.out.lt)
        clear c0 c1 c2 c3 c4
        have hb7 := hb5.trans (hb6.mono hb5.size)
        clear hb6 hb5 hb
        go_wp2_with fail
        go_ret
        exact ⟨rfl, hb7⟩
  | none =>
    have hbig := fun w => Go_bad m hm s (a : Int) (N : Int) ByteArray.empty none 0 0 none none 0 0 w (by omega) (by omega) hal (by omega) (by omega) hto
    have HBIG := Lib.hid hbig; clear hbig
    have HTO := Lib.hid hto; clear hto
    go_enter Try.func6, Try.ntmps6
    go_wp2_with fail
    refine (gone_any _).mono ?_
    rintro e w1 ⟨rfl, hb1⟩
    go_wp2_with fail
    refine (HP1.out _).mono ?_
    rintro e w2 ⟨rfl, rfl⟩
    go_wp2_with fail
    refine (HP2.out _).mono ?_
    rintro e w2 ⟨rfl, rfl⟩
    go_wp2_with fail
    refine (HP3.out _).mono ?_
    rintro e w2 ⟨rfl, rfl⟩
    go_wp2_with fail
    rw [HNI.out]
    refine (HBIG.out _).mono ?_
    rintro e w2 ⟨rfl, hb2⟩
    have hbx := hb1.alloc hb1.size (.cells #[.string s, .int .i64 (a : Nat), .slice none 0 0, .map none, .slice none 0 0] 51)
    have hrp := RowAt.new w1 51 #[.string s, .int .i64 (a : Nat), .slice none 0 0, .map none, .slice none 0 0]
    replace hrp : RowAt w2 w1.heap.size 0 51 (plCells s (a : Nat)) := hrp.below hb2 (by simp)
    have hg1 : w1.heap.size < w2.heap.size := by have := hb2.size; simp at this; omega
    have hgw : w.heap.size ≤ w1.heap.size := hb1.size
    replace hbx := hbx.trans (hb2.mono hbx.size)
    clear hb1 hb2
    generalize w1.heap.size = gp at *
    obtain ⟨c0, c1, c2, c3, c4⟩ := PlAt.of hrp
    go_wp2_with fail
    clear c0 c1 c2 c3 c4
    have hrq := RowAt.new w2 51 #[.string s, .int .i64 (a : Nat), .slice none 0 0, .map none, .slice none 0 0]
    replace hrq : RowAt _ w2.heap.size 0 51 (plCells s (a : Nat)) := hrq
    replace hrp := hrp.alloc (.cells #[.string s, .int .i64 (a : Nat), .slice none 0 0, .map none, .slice none 0 0] 51)
    replace hbx := hbx.alloc hbx.size (.cells #[.string s, .int .i64 (a : Nat), .slice none 0 0, .map none, .slice none 0 0] 51)
    generalize w2.alloc (.cells #[.string s, .int .i64 (a : Nat), .slice none 0 0, .map none, .slice none 0 0] 51) = w3 at *
    generalize w2.heap.size = gq at *
    have hne : gp ≠ gq := by omega
    have hgqw : w.heap.size ≤ gq := by omega
    go_loopw [15] (fun i wr => ∃ k : Nat, k ≤ N ∧ Hid (∀ j : Nat, 1 ≤ j → j ≤ k → stp m s.size (a : Int) (j : Int) ≠ none) ∧ i = .int .i64 k ∧ Hid (RowAt wr gq 0 51 (plCells s (at_k m s.size (a : Int) k))) ∧ Hid (RowAt wr gp 0 51 (plCells s (a : Nat))) ∧ Below w.heap.size w wr) (fun i _ => N - (intOf i).toNat)
    case atStart => exact ⟨0, by omega, fun j h1 h2 => by omega, rfl, by have h : at_k m s.size (a : Int) 0 = (a : Int) := rfl; rw [h]; exact hrq, hrp, hbx⟩
    case round =>
      clear hrq hrp hbx
      obtain ⟨k, hk, HOK, rfl, HRQ, HRP, hb⟩ := hrel
      have hkb := HAB.out k
      obtain ⟨c0, c1, c2, c3, c4⟩ := PlAt.of HRQ.out
      have hfz := HRQ.out.frozen0 1 (by simp [plCells])
      have hql := HRQ.out.lt
      by_cases hlt : k < N
      · have hkI : (k : Int) < (N : Int) := by omega
        have hnx := HST.out k (fun j h1 h2 => HOK.out j h1 h2)
        cases hxs : stp m s.size (a : Int) ((k : Int) + 1) with
        | none =>
          rw [hxs] at hnx
          have hone := fun w => Go_bad m hm s _ 1 ByteArray.empty none 0 0 none none 0 0 w (by omega) hkb.1 hkb.2 (by decide) (by decide) hnx
          have HONE := Lib.hid hone; clear hone hnx hxs
          generalize hxx : at_k m s.size (a : Int) k = x at *
          have HXX := Lib.hid hxx; clear hxx
          go_wp2_with fail
          refine (HONE.out _).mono ?_
          rintro e w4 ⟨rfl, hb4⟩
          replace hb := hb.trans (hb4.mono hb.size)
          go_wp2_with fail
          go_ret
          exact ⟨rfl, hb⟩
        | some y =>
          rw [hxs] at hnx
          have hyy : at_k m s.size (a : Int) (k + 1) = y := by
            unfold at_k
            rw [if_neg (by omega), show ((k + 1 : Nat) : Int) = (k : Int) + 1 from by omega, hxs]; rfl
          have hok : ∀ j : Nat, 1 ≤ j → j ≤ k + 1 → stp m s.size (a : Int) (j : Int) ≠ none := by
            intro j h1 h2 h3
            by_cases hj : j ≤ k
            · exact HOK.out j h1 hj h3
            · obtain rfl : j = k + 1 := by omega
              rw [show ((k + 1 : Nat) : Int) = (k : Int) + 1 from by omega, hxs] at h3
              cases h3
          have HOK2 := Lib.hid hok; clear hok
          have HYY := Lib.hid hyy; clear hyy
          have hone := fun w => Go_ok m hm _ s _ 1 ByteArray.empty none 0 0 none none 0 0 w (by omega) hkb.1 hkb.2 (by decide) (by decide) hnx
          have HONE := Lib.hid hone; clear hone hnx hxs
          generalize hxx : at_k m s.size (a : Int) k = x at *
          have HXX := Lib.hid hxx; clear hxx
          go_wp2_with fail
          refine (HONE.out _).mono ?_
          rintro e w4 ⟨rfl, hb4⟩
          have hrq4 := HRQ.out.below hb4 hql
          have hrp4 := HRP.out.below hb4 HRP.out.lt
          replace hb := hb.trans (hb4.mono hb.size)
          clear c0 c1 c2 c3 c4 hfz
          obtain ⟨c0, c1, c2, c3, c4⟩ := PlAt.of hrq4
          have hfz := hrq4.frozen0 1 (by simp [plCells])
          go_wp2_with fail
          go_roundw
          case rel => exact ⟨k + 1, by omega, HOK2, by go_num, by rw [HYY.out]; exact hrq4.set0 1 (by simp [plCells]) (.int .i64 y), hrp4.far (p := ⟨gq, 1, none⟩) hne _, hb.setCell (p := ⟨gq, 1, none⟩) hgqw _⟩
          case measure => simp [intOf]; omega
      · obtain rfl : k = N := by omega
        exact absurd HTO.out (HOK.out k hN1 (Nat.le_refl _))
end Go.Proofs.Ytpmmgddfnemcpaa
