/- The law RegsNine: the walk. -/
import Derived.Test.YtmmkbjinkdgdbaaRegsD
import Derived.Test.YtmmkbjinkdgdbaaCfNine
namespace Go.Proofs.Ytmmkbjinkdgdbaa
open Go.RowKit Go.Maps
set_option linter.unusedVariables false
set_option linter.unusedSimpArgs false
namespace Regs
/-- the nine behind these texts -/
def nine (l : List ByteArray) : List ByteArray := (l.reverse ++ List.replicate 9 (⟨#[]⟩ : ByteArray)).take 9
theorem nine_step (l : List ByteArray) (s : ByteArray) : s :: (nine l).take 8 = nine (l ++ [s]) := by
  unfold nine
  rw [List.reverse_append, List.reverse_singleton, List.singleton_append, List.cons_append, List.take_succ_cons, List.take_take]; rfl
theorem nine_nil : nine [] = List.replicate 9 (⟨#[]⟩ : ByteArray) := rfl
theorem nine_get (l : List ByteArray) (k : Nat) (h1 : 1 ≤ k) (h9 : k ≤ 9) : (nine l).getD (k - 1) ByteArray.empty = if k ≤ l.length then l.getD (l.length - k) ByteArray.empty else ByteArray.empty := by
  unfold nine
  rw [List.getD_eq_getElem?_getD, List.getElem?_take, if_pos (by omega)]
  by_cases h : k ≤ l.length
  · rw [if_pos h, List.getElem?_append_left (by rw [List.length_reverse]; omega), List.getElem?_reverse (by omega), List.getD_eq_getElem?_getD]
    congr 2
    omega
  · rw [if_neg h, List.getElem?_append_right (by rw [List.length_reverse]; omega), List.getElem?_replicate]
    split <;> rfl
end Regs
set_option maxRecDepth 100000 in
set_option maxHeartbeats 1000000 in
theorem RegsNine_walk (w : World) (a : Option Addr) (n c : Nat) (ss : List ByteArray) (h : IsStrs w a n c ss) :
    Calls Try.prog 3 #[.slice a n c] w fun e w' => e = .returned (.bool true) ∧ Below w.heap.size w w' := by
  have hlen := h.len
  have HH := Lib.hid h; clear h
  go_enter Try.func3, Try.ntmps3
  go_wp2_with fail
  refine (kept_any _).mono ?_
  rintro e w1 ⟨rfl, hb1⟩
  have h1 := HH.out.below hb1 (Nat.le_refl _)
  have hC := CfNine.contains a n c ss w1 h1
  obtain ⟨tx, htx⟩ : ∃ tx, tx = ss.take n := ⟨_, rfl⟩
  rw [← htx] at hC
  have hntx : tx.length = n := by rw [htx, List.length_take]; omega
  have hget : ∀ k, k < n → tx.getD k ByteArray.empty = ss.getD k ByteArray.empty := by
    intro k hk
    rw [htx, List.getD_eq_getElem?_getD, List.getElem?_take, if_pos hk, ← List.getD_eq_getElem?_getD]
  have HG := Lib.hid hget; clear hget htx
  have H1 := Lib.hid h1; clear h1
  have HC := Lib.hid hC; clear hC
  clear HH
  by_cases hn : n ≤ 30
  · have hnd : decide ((30 : Int) < (n : Int)) = false := by rw [decide_eq_false_iff_not]; omega
    cases hany : tx.any CfNine.p with
    | true =>
      rw [hany] at HC
      clear hany
      go_wp2_with fail
      refine HC.out.mono ?_
      rintro e w2 ⟨rfl, rfl⟩
      go_wp2_with fail
      go_ret
      exact ⟨rfl, hb1⟩
    | false =>
      rw [hany] at HC
      have hsm : ∀ k, k < n → (tx.getD k ByteArray.empty).size ≤ 60 := by
        intro k hk
        have := List.any_eq_false.1 hany (tx.getD k ByteArray.empty) (by rw [List.getD_eq_getElem?_getD, List.getElem?_eq_getElem (by omega)]; exact List.getElem_mem _)
        unfold CfNine.p at this
        rw [decide_eq_true_eq] at this
        omega
      have HS := Lib.hid hsm; clear hsm hany
      have HNT := Lib.hid hntx; clear hntx
      go_wp2_with fail
      refine HC.out.mono ?_
      rintro e w2 ⟨rfl, rfl⟩
      clear HC
      go_wp2_with fail
      have h0 := RegsAt.start w1
      have hb0 := (Below.refl w1.heap.size w1).alloc (Nat.le_refl _) (.cells #[.map none, .string ⟨#[]⟩, .string ⟨#[]⟩, .string ⟨#[]⟩, .string ⟨#[]⟩, .string ⟨#[]⟩, .string ⟨#[]⟩, .string ⟨#[]⟩, .string ⟨#[]⟩, .string ⟨#[]⟩] 30)
      generalize w1.alloc (.cells #[.map none, .string ⟨#[]⟩, .string ⟨#[]⟩, .string ⟨#[]⟩, .string ⟨#[]⟩, .string ⟨#[]⟩, .string ⟨#[]⟩, .string ⟨#[]⟩, .string ⟨#[]⟩, .string ⟨#[]⟩] 30) = w0 at *
      obtain ⟨B, hB⟩ : ∃ B, B = w1.heap.size := ⟨_, rfl⟩
      rw [← hB] at h0 hb0 ⊢
      have HB := Lib.hid hB; clear hB
      go_loopw [4] (fun i wr => ∃ (k m : Nat) (F : Nat → List UInt8), k ≤ n ∧ m ≤ 2 * k ∧ (F 113).length ≤ 60 ∧ i = .int .i64 (k : Int) ∧ Hid (RegsAt wr B B m F (Regs.nine (tx.take k))) ∧ Hid (Below B w1 wr)) (fun i _ => n - (intOf i).toNat)
      case atStart => exact ⟨0, 0, _, by omega, by omega, Nat.zero_le _, rfl, Lib.hid h0, Lib.hid hb0⟩
      case round =>
        clear h0 hb0
        obtain ⟨k, m, F, hk, hm, hF, rfl, HR, HBW⟩ := hrel
        by_cases hlt : k < n
        · obtain ⟨x, rfl, hx, hcell, hsz⟩ := H1.out.cell k hlt
          rw [← HG.out k hlt] at hcell
          have hs60 := HS.out k hlt
          have hst : bstr (tx.getD k ByteArray.empty).data.toList :: (Regs.nine (tx.take k)).take 8 = Regs.nine (tx.take (k + 1)) := by
            rw [← eq_bstr, Regs.nine_step, List.take_succ_eq_append_getElem (by rw [HNT.out]; omega), List.getD_eq_getElem?_getD, List.getElem?_eq_getElem (by rw [HNT.out]; omega)]
            rfl
          have hl60 : (tx.getD k ByteArray.empty).data.toList.length ≤ 60 := by rw [data_length]; exact hs60
          rw [eq_bstr (tx.getD k ByteArray.empty)] at hcell
          generalize (tx.getD k ByteArray.empty).data.toList = t at *
          have hcell2 : wr.cell? (x.add k) = some (.string (bstr t)) := by
            rw [World.cell?_of_block (w := w1) (w' := wr) (a := x.add k) (HBW.out.block _ (by rw [Addr.add_block, HB.out]; exact hx))]
            exact hcell
          have hBz : B ≤ wr.heap.size := by rw [HB.out]; exact HBW.out.size
          have hcut := Cut_ok B B m F _ 113 t wr HR.out (by decide) (by decide) hBz (by show (F 113).length + t.length ≤ 4000; omega) (by omega)
          rw [hst, show Regs.text F 113 t = t from rfl, show Regs.small 113 = 113 from rfl, show ((113 : Nat) : Int) = 113 from rfl] at hcut
          have HCT := Lib.hid hcut; clear hcut hst
          have hki : (k : Int) < (n : Int) := by omega
          clear hcell hs60 hsz
          go_wp2_with fail
          refine HCT.out.mono ?_
          rintro e w3 ⟨rfl, hr3, hb3⟩
          have HR3 := Lib.hid hr3; clear hr3
          have hb4 : Below B w1 w3 := HBW.out.trans hb3
          have HB4 := Lib.hid hb4; clear hb4 hb3
          go_wp2_with fail
          go_roundw
          case rel => exact ⟨k + 1, m + 2, _, by omega, by omega, hl60, by go_num, HR3, HB4⟩
          case measure => simp [intOf]; omega
        · obtain rfl : k = n := by omega
          have hd : decide ((k : Int) < (k : Int)) = false := by simp
          have htk : tx.take k = tx := List.take_of_length_le (by rw [HNT.out]; exact Nat.le_refl _)
          rw [htk] at HR
          clear htk
          go_wp2_with fail
          have HNT2 := HNT
          go_loop [5] (fun i => ∃ q : Nat, 1 ≤ q ∧ q ≤ 10 ∧ i = .int .i64 (q : Int)) (fun i => 10 - (intOf i).toNat)
          case atStart => exact ⟨1, by omega, by omega, rfl⟩
          case round =>
            obtain ⟨q, hq1, hq2, rfl⟩ := hrel
            by_cases hq : q ≤ 9
            · have hqi : (q : Int) ≤ 9 := by omega
              have hq1i : (1 : Int) ≤ (q : Int) := by omega
              have hget := Get_cut B B m F _ (48 + q) wr HR.out (by omega) (by omega)
              rw [show 48 + q - 49 = q - 1 by omega, Regs.nine_get tx q hq1 hq, HNT.out, show ((48 + q : Nat) : Int) = 48 + (q : Int) by omega] at hget
              have hu8 : IntKind.u8.wrap (48 + (q : Int)) = 48 + (q : Int) := by rw [IntKind.wrap_u8]; omega
              by_cases hqk : q ≤ k
              · rw [if_pos hqk, ] at hget
                have hkq : k - q < k := by omega
                obtain ⟨x, rfl, hx, hcell, hsz⟩ := H1.out.cell (k - q) hkq
                rw [← HG.out (k - q) hkq] at hcell
                generalize tx.getD (k - q) ByteArray.empty = sk at *
                have hcell2 : wr.cell? (x.add (k - q)) = some (.string sk) := by
                  rw [World.cell?_of_block (w := w1) (w' := wr) (a := x.add (k - q)) (HBW.out.block _ (by rw [Addr.add_block, HB.out]; exact hx))]
                  exact hcell
                have hkqi : (q : Int) ≤ (k : Int) := by omega
                have hsub : ((k : Int) - (q : Int)).toNat = k - q := by omega
                have hsl : (sk.toList != sk.toList) = false := by simp
                have HGT := Lib.hid hget; clear hget
                clear hcell hsz
                go_wp2_with fail
                refine HGT.out.mono ?_
                rintro e w3 ⟨rfl, rfl⟩
                go_wp2_with fail
                go_round
                case rel => exact ⟨q + 1, by omega, by omega, by go_num⟩
                case measure => simp [intOf]; omega
              · rw [if_neg hqk] at hget
                have hkqi : decide ((q : Int) ≤ (k : Int)) = false := by rw [decide_eq_false_iff_not]; omega
                have HGT := Lib.hid hget; clear hget
                go_wp2_with fail
                refine HGT.out.mono ?_
                rintro e w3 ⟨rfl, rfl⟩
                go_wp2_with fail
                go_round
                case rel => exact ⟨q + 1, by omega, by omega, by go_num⟩
                case measure => simp [intOf]; omega
            · obtain rfl : q = 10 := by omega
              go_wp2_with fail
              go_ret
              exact ⟨rfl, hb1.trans (HBW.out.mono (by rw [HB.out]; exact hb1.size))⟩
  · go_wp2_with fail
    go_ret
    exact ⟨rfl, hb1⟩
end Go.Proofs.Ytmmkbjinkdgdbaa
