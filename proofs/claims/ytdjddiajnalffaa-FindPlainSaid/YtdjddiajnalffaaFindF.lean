/- The law FindPlain. -/
import Derived.Test.YtdjddiajnalffaaFindE
import Derived.Test.YtdjddiajnalffaaPick
import Derived.Test.YtdjddiajnalffaaOwnStep
namespace Go.Proofs.Ytdjddiajnalffaa
open Go.RowKit
set_option linter.unusedVariables false
set_option linter.unusedSimpArgs false
set_option maxRecDepth 100000 in
set_option maxHeartbeats 2000000 in
theorem FindPlain_walk (s p : ByteArray) (op : Int) (hs : s.size ≤ 140737488351232) (hp : p.size ≤ 140737488351232) (ho1 : -9223372036854775808 ≤ op) (ho2 : op ≤ 9223372036854775807) (w : World) :
    Calls Try.prog 10 #[.string s, .string p, .int .i64 op] w fun e w' => e = .returned (.bool true) ∧ Below w.heap.size w w' := by
  by_cases h0 : p.size = 0
  · have hemp : p.toList.isEmpty = true := by
      rw [ByteArray.toList_eq]
      cases h : p.data.toList with
      | nil => rfl
      | cons x l => have := data_length p; rw [h] at this; simp at this; omega
    clear h0
    go_enter Try.func10, Try.ntmps10
    go_wp2_with fail
    refine (found_any _).mono ?_
    rintro e w1 ⟨rfl, hb1⟩
    go_wp2_with fail
    go_ret
    exact ⟨rfl, hb1⟩
  have hemp : p.toList.isEmpty = false := by
    rw [ByteArray.toList_eq]
    cases h : p.data.toList with
    | nil => have := data_length p; rw [h] at this; simp at this; omega
    | cons x l => rfl
  by_cases h60 : 60 < p.size
  · have hd1 : decide ((60 : Int) < (p.size : Int)) = true := by rw [decide_eq_true_eq]; omega
    clear h0
    go_enter Try.func10, Try.ntmps10
    go_wp2_with fail
    refine (found_any _).mono ?_
    rintro e w1 ⟨rfl, hb1⟩
    go_wp2_with fail
    go_ret
    exact ⟨rfl, hb1⟩
  have hd1 : decide ((60 : Int) < (p.size : Int)) = false := by rw [decide_eq_false_iff_not]; omega
  by_cases h300 : 300 < s.size
  · have hd2 : decide ((300 : Int) < (s.size : Int)) = true := by rw [decide_eq_true_eq]; omega
    clear h0
    go_enter Try.func10, Try.ntmps10
    go_wp2_with fail
    refine (found_any _).mono ?_
    rintro e w1 ⟨rfl, hb1⟩
    go_wp2_with fail
    go_ret
    exact ⟨rfl, hb1⟩
  have hd2 : decide ((300 : Int) < (s.size : Int)) = false := by rw [decide_eq_false_iff_not]; omega
  have hp1 : 1 ≤ p.size := by omega
  have hp60 : p.size ≤ 60 := by omega
  have hs300 : s.size ≤ 300 := by omega
  clear h0 h60 h300
  have hlen : p.data.toList.length = p.size := data_length p
  have hsl : s.data.toList.length = s.size := data_length s
  obtain ⟨l, hl⟩ : ∃ l, l = p.data.toList := ⟨_, rfl⟩
  rw [← hl] at hlen
  have hmo := Like.occ_maskOf l s.data.toList (by omega) (by omega)
  rw [hlen, hsl] at hmo
  have hop := Like.occ_open (Like.maskOf l) p.size s.data.toList (pickN op (2 * p.size)) (by rw [Like.maskOf_length, hlen]; exact pickN_lt _ _ (by omega)) hp1 (by omega)
  rw [hsl] at hop
  have hall := fun w => All_any s p w (by omega) hp1 (by omega)
  rw [← hl] at hall
  have HL := Lib.hid hl; clear hl
  have HLEN := Lib.hid hlen; clear hlen
  have HMO := Lib.hid hmo; clear hmo
  have HOP := Lib.hid hop; clear hop
  have HALL := Lib.hid hall; clear hall hsl
  go_enter Try.func10, Try.ntmps10
  go_wp2_with fail
  refine (found_any _).mono ?_
  rintro e w1 ⟨rfl, hb1⟩
  go_wp2_with fail
  go_loopw [7, 8] (fun m i wr => ∃ (k : Nat) (a : Option Addr) (cap : Nat), k ≤ p.size ∧ i = .int .i64 k ∧ m = .slice a (2 * k) cap ∧ Owns wr w.heap.size 3 1 a (2 * k) cap (ivals (Like.maskOf (l.take k))) ∧ Below w.heap.size w wr) (fun _ i _ => p.size - (intOf i).toNat)
  case atStart => exact ⟨0, none, 0, by omega, rfl, rfl, Owns.nil _ _ _ _, hb1⟩
  case round =>
    clear hb1
    obtain ⟨k, a, cap, hk, rfl, rfl, hown, hb⟩ := hrel
    have hbs := hb.size
    by_cases hlt : k < p.size
    · have hkI : (k : Int) < (p.size : Int) := by omega
      have hbq : p[k].toNat = (l.getD k 0).toNat := by rw [byteAt p k hlt, HL.out]
      have hb8 : p[k].toNat < 256 := UInt8.toNat_lt _
      have h15 := u8_and15 (x := (p[k].toNat : Int)) (by omega) (by omega)
      have hmk : Like.maskOf (l.take (k + 1)) = Like.maskOf (l.take k) ++ [((p[k].toNat / 16 : Nat) : Int), ((p[k].toNat % 16 : Nat) : Int)] := by
        rw [List.take_succ_eq_append_getElem (by rw [HLEN.out]; exact hlt), Like.maskOf_append, hbq, List.getD_eq_getElem?_getD, List.getElem?_eq_getElem (by rw [HLEN.out]; exact hlt)]
        rfl
      have HMK := Lib.hid hmk; clear hmk hbq
      go_wp2_with fail
      have hown' := hown.drew
      have hbs' : w.heap.size ≤ wr.drew.heap.size := hbs
      have hcs : (2 * k + 2) * 8 ≤ 140737488355328 := by omega
      have hml : 2 * k + 2 ≤ maxLen := by unfold maxLen; omega
      have hbs2 : w.heap.size ≤ (wr.alloc (.cells #[.int .i64 (IntKind.i64.wrap ((p[k].toNat : Int) / 16)), .int .i64 (IntKind.i64.wrap ((p[k].toNat : Int) % 16))] 3)).drew.heap.size := by simp; omega
      go_region_held3 (fun _ => True) (trivial)
        ((refine step_pushN _ (by rfl) _ _ 54 (by rfl) w.heap.size 3 (.int .i64 0) 1 8 Try.underlying54 infoInt rfl (by decide) a (2 * k) cap _ (by rfl) (hown'.alloc _) wr.heap.size 2 2 (by decide) [.int .i64 (IntKind.i64.wrap ((p[k].toNat : Int) / 16)), .int .i64 (IntKind.i64.wrap ((p[k].toNat : Int) % 16))] (by rfl) (by simp [Value.oneCell']) (by rfl) (RowAt.new wr 3 #[.int .i64 (IntKind.i64.wrap ((p[k].toNat : Int) / 16)), .int .i64 (IntKind.i64.wrap ((p[k].toNat : Int) % 16))]).drew hml hcs hbs2 ?_; intro a' cap' w' hown' hgrow hloc hex))
      all_goals
        have hw1 : IntKind.i64.wrap ((p[k].toNat : Int) / 16) = ((p[k].toNat / 16 : Nat) : Int) := by rw [IntWalk.i64_in _ ⟨by omega, by omega⟩]; omega
        have hw2 : IntKind.i64.wrap ((p[k].toNat : Int) % 16) = ((p[k].toNat % 16 : Nat) : Int) := by rw [IntWalk.i64_in _ ⟨by omega, by omega⟩]; omega
        have hk2 : 2 * k + 2 = 2 * (k + 1) := by omega
        have HW1 := Lib.hid hw1; clear hw1
        have HW2 := Lib.hid hw2; clear hw2
        have HK2 := Lib.hid hk2; clear hk2
        go_wp2_with fail
        go_roundw
        case rel =>
          refine ⟨k + 1, a', cap', by omega, by go_num, by rw [HK2.out], ?_, ?_⟩
          · rw [HMK.out, ← HK2.out]
            rw [HW1.out, HW2.out] at hown'
            simpa [ivals] using hown'
          · exact below_blk ((hb.alloc hbs _).drew) ((hown.alloc _).drew) (Nat.le_refl _) (by simp; omega) hgrow
        case measure => simp [intOf]; omega
    · obtain rfl : k = p.size := by omega
      have hd : decide ((p.size : Int) < (p.size : Int)) = false := by simp
      rw [List.take_of_length_le (by rw [HLEN.out]; omega)] at hown
      have hbl := hown.blk_lt
      go_wp2_with fail
      refine (HALL.out _).mono ?_
      rintro e w2 ⟨a2, c2, rfl, ho2, hb2⟩
      replace hown := hown.below hb2 (Nat.le_refl _)
      have hb12 := hb.trans (hb2.mono hb.size)
      have hbl2 : ∀ x, a = some x → x.block < w2.heap.size := fun x hx => Nat.lt_of_lt_of_le (hbl x hx) hb2.size
      have hbl3 := ho2.blk_lt
      have hal := Kmp.occ_length s.data.toList l s.size
      go_wp2_with fail
      refine (Like_any s a cap p.size (Like.maskOf l) _ (by omega) (by rw [Like.maskOf_length, HLEN.out]) hp1 (by omega) hown.readsI hbl2).mono ?_
      rintro e w3 ⟨a3, c3, rfl, ho3, hb3⟩
      rw [HMO.out] at ho3 ⊢
      generalize hA : Kmp.occ s.data.toList l s.size = A at *
      replace hown := hown.below hb3 (Nat.le_refl _)
      replace ho2 := ho2.below hb3 (Nat.le_refl _)
      have hb13 := hb12.trans (hb3.mono hb12.size)
      have hbl4 : ∀ x, a = some x → x.block < w2.heap.size := hbl2
      have hbl5 : ∀ x, a2 = some x → x.block < w2.heap.size := hbl3
      clear hb12 hb2 hb hb3
      have hpk := pickN_lt op (2 * p.size) (by omega)
      have hex : ∃ gm, a = some ⟨gm, 0, none⟩ := by
        cases a with
        | none => have := hown.of_none.1; omega
        | some x => exact ⟨x.block, by rw [← hown.row.1]⟩
      obtain ⟨gm, rfl⟩ := hex
      have hml : (ivals (Like.maskOf l)).length = 2 * p.size := by rw [ivals_length, Like.maskOf_length, HLEN.out]
      have hgm := hown.lt
      have hgm1 : w.heap.size ≤ gm := hgm.1
      have hgm2 : gm < w3.heap.size := hgm.2
      go_wp2_with fail
      refine (pick_at op _ (2 * p.size) _ (by omega) (by omega) (by omega)).mono ?_
      rintro e w4 ⟨rfl, rfl⟩
      have hop := HOP.out
      generalize hq : pickN op (2 * p.size) = q at *
      have HQ := Lib.hid hq; clear hq
      have hc := hown.cell q (by rw [hml]; exact hpk)
      have hf := hown.row.2.2.2.2.frozen0 q (by rw [hml]; exact hpk)
      have hqI : (q : Int) < 2 * (p.size : Int) := by omega
      clear hop
      have hown4 := hown.set q (by rw [hml]; exact hpk) (.int .i64 (-1))
      rw [ivals_set] at hown4
      have hne2 : ∀ x, a2 = some x → x.block ≠ gm := fun x hx => by
        subst hx
        have h2 := ho2.lt.1
        have h3 : gm < wr.heap.size := hbl _ rfl
        omega
      have hne3 : ∀ x, a3 = some x → x.block ≠ gm := fun x hx => by
        subst hx
        have h2 := ho3.lt.1
        have h3 := hbl4 _ rfl
        have h4 : gm < w2.heap.size := h3
        omega
      have ho24 := ho2.far (p := ⟨gm, q, none⟩) hne2 (.int .i64 (-1))
      have ho34 := ho3.far (p := ⟨gm, q, none⟩) hne3 (.int .i64 (-1))
      have hb14 := hb13.setCell (p := ⟨gm, q, none⟩) hgm1 (.int .i64 (-1))
      clear hown ho2 ho3 hb13 hne2 hne3
      go_wp2_with fail
      have hgm4 : ∀ x, (some ⟨gm, 0, none⟩ : Option Addr) = some x → x.block < (w3.setCell ⟨gm, q, none⟩ (.int .i64 (-1))).heap.size := fun x hx => by
        cases hx
        simpa using hgm2
      have hcl : ((Like.maskOf l).set q (-1)).length = 2 * p.size := by rw [List.length_set, Like.maskOf_length, HLEN.out]
      generalize w3.setCell ⟨gm, q, none⟩ (.int .i64 (-1)) = w4 at *
      refine (Like_any s (some ⟨gm, 0, none⟩) cap p.size ((Like.maskOf l).set q (-1)) _ (by omega) hcl hp1 (by omega) hown4.readsI hgm4).mono ?_
      rintro e w5 ⟨a5, c5, rfl, ho5, hb5⟩
      have hop := HOP.out
      rw [HMO.out] at hop
      have hC := Like.occ_length ((Like.maskOf l).set q (-1)) p.size s.data.toList s.size
      generalize Like.occ ((Like.maskOf l).set q (-1)) p.size s.data.toList s.size = C at *
      have HC := Lib.hid hop; clear hop
      replace ho24 := ho24.below hb5 (Nat.le_refl _)
      replace ho34 := ho34.below hb5 (Nat.le_refl _)
      replace hb14 := hb14.trans (hb5.mono hb14.size)
      clear hown4 hb5
      go_wp2_with fail
      go_loop [76] (fun i => ∃ k : Nat, k ≤ A.length ∧ i = .int .i64 k) (fun i => A.length - (intOf i).toNat)
      case atStart => exact ⟨0, by omega, rfl⟩
      case round =>
        obtain ⟨k, hk, rfl⟩ := hrel
        by_cases hlt : k < A.length
        · have hex : ∃ g3, a3 = some ⟨g3, 0, none⟩ := by
            cases a3 with
            | none => have := ho34.of_none.1; omega
            | some x => exact ⟨x.block, by rw [← ho34.row.1]⟩
          obtain ⟨g3, rfl⟩ := hex
          have hcx := ho34.int k (by simpa using hlt)
          have hmem : ((A.map fun (i : Nat) => (i : Int)).getD k 0) ∈ C.map fun (i : Nat) => (i : Int) := by
            have h1 := HC.out A[k] (List.getElem_mem _)
            simp only [List.getD_eq_getElem?_getD, List.getElem?_map, List.getElem?_eq_getElem hlt, Option.map_some, Option.getD_some]
            exact List.mem_map.2 ⟨_, h1, rfl⟩
          have hkI : (k : Int) < (A.length : Int) := by omega
          generalize (A.map fun (i : Nat) => (i : Int)).getD k 0 = x at *
          have HMEM := Lib.hid hmem; clear hmem
          have HO24 := Lib.hid ho24; clear ho24
          have HO34 := Lib.hid ho34; clear ho34
          go_wp2_with fail
          refine (Contains_any _ _ _ (C.map fun (i : Nat) => (i : Int)) x _ (by simp) (by omega) ho5.readsI).mono ?_
          rintro e w6 ⟨rfl, rfl⟩
          rw [decide_eq_true HMEM.out]
          go_wp2_with fail
          go_round
          case rel => exact ⟨k + 1, by omega, by go_num⟩
          case measure => simp [intOf]; omega
        · obtain rfl : k = A.length := by omega
          have hd : decide ((A.length : Int) < (A.length : Int)) = false := by simp
          go_wp2_with fail
          refine (Equal_yes _ _ _ _ _ _ (A.map fun (i : Nat) => (i : Int)) _ (by simp) rfl (by omega) ho24.readsI ho34.readsI).mono ?_
          rintro e w8 ⟨rfl, k3, rfl⟩
          go_wp2_with fail
          go_ret
          exact ⟨rfl, bdrewN hb14 _⟩
end Go.Proofs.Ytdjddiajnalffaa
