/- The law RegsLast: the walk. -/
import Derived.Test.YtmmkbjinkdgdbaaRegsD
import Derived.Test.YtmmkbjinkdgdbaaCfLast
import Derived.Test.YtmmkbjinkdgdbaaShelf
namespace Go.Proofs.Ytmmkbjinkdgdbaa
open Go.RowKit Go.Maps
set_option linter.unusedVariables false
set_option linter.unusedSimpArgs false
theorem IsInts.u8 {w : World} {a : Option Addr} {len cap : Nat} {zs : List Int} (h : IsInts .u8 w a len cap zs) (i : Nat) (hi : i < len) : ∃ c : Nat, zs.getD i 0 = (c : Int) ∧ c < 256 := by
  rcases h with ⟨_, h, _⟩ | ⟨x, h1, h2, h3, h4, h5, h6, h7⟩
  · omega
  · have := h6 (zs.getD i 0) (by rw [List.getD_eq_getElem?_getD, List.getElem?_eq_getElem (by omega)]; exact List.getElem_mem _)
    have e1 : IntKind.u8.min = 0 := rfl
    have e2 : IntKind.u8.max = 255 := rfl
    simp [Lit.wf, e1, e2] at this
    have h0 : 0 ≤ zs.getD i 0 := by simpa using this.1
    have h9 : zs.getD i 0 ≤ 255 := by simpa using this.2
    exact ⟨(zs.getD i 0).toNat, by omega, by omega⟩
namespace Regs
theorem name_far (c : Nat) (h : name c = true) : c < 49 ∨ 57 < c := by
  unfold name small great at h
  by_cases h1 : 65 ≤ c ∧ c ≤ 90
  · omega
  · rw [show (decide (65 ≤ c) && decide (c ≤ 90)) = false by simp; omega, if_neg (by simp)] at h
    simp at h
    omega
theorem hasSuffix_self (a t : List UInt8) : Lib.hasSuffix (a ++ t) t = true := by
  unfold Lib.hasSuffix
  simp
theorem text_suffix (F : Nat → List UInt8) (c : Nat) (t : List UInt8) : Lib.hasSuffix (text F c t) t = true := by
  unfold text
  split
  · exact hasSuffix_self _ _
  · exact hasSuffix_self [] t
/-- the registers behind one more -/
def next (F : Nat → List UInt8) (c : Nat) (t : List UInt8) : Nat → List UInt8 := upd (upd F (small c) (text F c t)) 34 (text F c t)
theorem next_at (F : Nat → List UInt8) (c : Nat) (t : List UInt8) : next F c t (small c) = text F c t := by
  unfold next
  by_cases h : small c = 34
  · rw [h, upd_same]
  · rw [upd_other _ _ _ _ h, upd_same]
theorem next_last (F : Nat → List UInt8) (c : Nat) (t : List UInt8) : next F c t 34 = text F c t := by unfold next; rw [upd_same]
theorem next_far (F : Nat → List UInt8) (c x : Nat) (t : List UInt8) (h : x ≠ small c) (h2 : x ≠ 34) : next F c t x = F x := by unfold next; rw [upd_other _ _ _ _ h2, upd_other _ _ _ _ h]
theorem next_len (F : Nat → List UInt8) (c : Nat) (t : List UInt8) (m : Nat) (h : ∀ x, (F x).length ≤ m) (ht : t.length ≤ 60) (x : Nat) : (next F c t x).length ≤ m + 60 := by
  have hT : (text F c t).length ≤ m + 60 := by
    unfold text
    split
    · rw [List.length_append]; have := h (small c); omega
    · omega
  unfold next upd
  split
  · exact hT
  · split
    · exact hT
    · have := h x; omega
theorem small_letter (c : Nat) (h1 : 97 ≤ c) (h2 : c < 123) : small c = c ∧ great c = false := by
  have hg : great c = false := by unfold great; simp; omega
  exact ⟨by unfold small; rw [hg]; rfl, hg⟩
theorem small_great (c : Nat) (h1 : 97 ≤ c) (h2 : c < 123) : small (c - 32) = c ∧ great (c - 32) = true := by
  have hg : great (c - 32) = true := by unfold great; simp; omega
  refine ⟨?_, hg⟩
  unfold small; rw [hg, if_pos rfl]; omega
theorem small_other (c l : Nat) (h1 : 97 ≤ l) (h2 : l < 123) (h3 : c ≠ l) (h4 : c ≠ l - 32) : l ≠ small c := by
  unfold small great
  by_cases h : 65 ≤ c ∧ c ≤ 90
  · rw [if_pos (by simp [h])]; omega
  · rw [if_neg (by simp; omega)]; omega
theorem name_letter (c : Nat) (h1 : 97 ≤ c) (h2 : c < 123) : name c = true := by
  unfold name
  rw [(small_letter c h1 h2).1]
  simp; omega
end Regs
set_option maxRecDepth 100000 in
set_option maxHeartbeats 4000000 in
theorem RegsLast_walk (w : World) (a1 : Option Addr) (n1 c1 : Nat) (zs : List Int) (a2 : Option Addr) (n2 c2 : Nat) (ss : List ByteArray) (look : Nat) (h1 : IsInts .u8 w a1 n1 c1 zs) (h2 : IsStrs w a2 n2 c2 ss) (hlook : look < 256) :
    Calls Try.prog 4 #[.slice a1 n1 c1, .slice a2 n2 c2, .int .u8 (look : Nat)] w fun e w' => e = .returned (.bool true) ∧ Below w.heap.size w w' := by
  have hlen1 := h1.len
  have hlen2 := h2.len
  have HH1 := Lib.hid h1; clear h1
  have HH2 := Lib.hid h2; clear h2
  go_enter Try.func4, Try.ntmps4
  go_wp2_with fail
  refine (kept_any _).mono ?_
  rintro e w1 ⟨rfl, hb1⟩
  have h1 := HH1.out.below hb1 (Nat.le_refl _)
  have h2 := HH2.out.below hb1 (Nat.le_refl _)
  have hC := CfLast.contains a2 n2 c2 ss w1 h2
  obtain ⟨tx, htx⟩ : ∃ tx, tx = ss.take n2 := ⟨_, rfl⟩
  rw [← htx] at hC
  have hntx : tx.length = n2 := by rw [htx, List.length_take]; omega
  have hget : ∀ k, k < n2 → tx.getD k ByteArray.empty = ss.getD k ByteArray.empty := by
    intro k hk
    rw [htx, List.getD_eq_getElem?_getD, List.getElem?_take, if_pos hk, ← List.getD_eq_getElem?_getD]
  have HG := Lib.hid hget; clear hget htx
  have H1 := Lib.hid h1; clear h1
  have H2 := Lib.hid h2; clear h2
  have HC := Lib.hid hC; clear hC
  clear HH1 HH2
  by_cases hn1 : n1 ≤ 30
  · have hnd1 : decide ((30 : Int) < (n1 : Int)) = false := by rw [decide_eq_false_iff_not]; omega
    by_cases hn2 : n2 ≤ 30
    · have hnd2 : decide ((30 : Int) < (n2 : Int)) = false := by rw [decide_eq_false_iff_not]; omega
      cases hany : tx.any CfLast.p with
      | true =>
        rw [hany] at HC
        clear hany
        go_wp2_with fail
        refine HC.out.mono ?_
        rintro e w2 ⟨rfl, rfl⟩
        go_wp2_with fail
        go_ret
        exact ⟨rfl, hb1⟩
      | false =>
        rw [hany] at HC
        have hsm : ∀ k, k < n2 → (tx.getD k ByteArray.empty).size ≤ 60 := by
          intro k hk
          have := List.any_eq_false.1 hany (tx.getD k ByteArray.empty) (by rw [List.getD_eq_getElem?_getD, List.getElem?_eq_getElem (by omega)]; exact List.getElem_mem _)
          unfold CfLast.p at this
          rw [decide_eq_true_eq] at this
          omega
        have HS := Lib.hid hsm; clear hsm hany
        have HNT := Lib.hid hntx; clear hntx
        obtain ⟨lk, hlk⟩ : ∃ lk : Nat, lk = 97 + look % 26 := ⟨_, rfl⟩
        have hlk1 : 97 ≤ lk := by omega
        have hlk2 : lk < 123 := by omega
        have hmod : (look : Int) % 26 = (lk : Int) - 97 := by omega
        have hw26 : IntKind.u8.wrap (97 + ((lk : Int) - 97)) = (lk : Int) := by rw [IntKind.wrap_u8]; omega
        have HLK := Lib.hid hlk; clear hlk
        go_wp2_with fail
        refine HC.out.mono ?_
        rintro e w2 ⟨rfl, rfl⟩
        clear HC
        go_wp2_with fail
        have h0 := RegsAt.start w1
        have hb0 := (Below.refl w1.heap.size w1).alloc (Nat.le_refl _) (.cells #[.map none, .string ⟨#[]⟩, .string ⟨#[]⟩, .string ⟨#[]⟩, .string ⟨#[]⟩, .string ⟨#[]⟩, .string ⟨#[]⟩, .string ⟨#[]⟩, .string ⟨#[]⟩, .string ⟨#[]⟩] 30)
        generalize w1.alloc (.cells #[.map none, .string ⟨#[]⟩, .string ⟨#[]⟩, .string ⟨#[]⟩, .string ⟨#[]⟩, .string ⟨#[]⟩, .string ⟨#[]⟩, .string ⟨#[]⟩, .string ⟨#[]⟩, .string ⟨#[]⟩] 30) = w0 at *
        obtain ⟨B, hB⟩ : ∃ B, B = w1.heap.size := ⟨_, rfl⟩
        rw [← hB] at h0 hb0 ⊢
        have HB := Lib.hid hB; clear hB
        clear hmod hw26
        go_loopw [8, 9, 10] (fun v8 v9 i wr => ∃ (k m : Nat) (F : Nat → List UInt8) (cut : List ByteArray), k ≤ n1 ∧ k ≤ n2 ∧ m ≤ 2 * k ∧ v8 = .string (bstr (F lk)) ∧ v9 = .string (bstr (F 34)) ∧ i = .int .i64 (k : Int) ∧ Hid (∀ x, (F x).length ≤ 60 * k) ∧ Hid (RegsAt wr B B m F cut) ∧ Hid (Below B w1 wr)) (fun _ _ i _ => n1 - (intOf i).toNat)
        case atStart => exact ⟨0, 0, _, _, by omega, by omega, by omega, rfl, rfl, rfl, Lib.hid (fun _ => Nat.le_refl _), Lib.hid h0, Lib.hid hb0⟩
        case round =>
          clear h0 hb0
          obtain ⟨k, m, F, cut, hk1, hk2, hm, rfl, rfl, rfl, HF, HR, HBW⟩ := hrel
          by_cases hlt1 : k < n1
          · by_cases hlt2 : k < n2
            · obtain ⟨x, rfl, hx, hcx⟩ := H1.out.cell k hlt1
              obtain ⟨c, hc, hc256⟩ := H1.out.u8 k hlt1
              rw [hc] at hcx
              clear hc
              obtain ⟨y, rfl, hy, hcy, hsz⟩ := H2.out.cell k hlt2
              rw [← HG.out k hlt2] at hcy
              have hl60 : (tx.getD k ByteArray.empty).data.toList.length ≤ 60 := by rw [data_length]; exact HS.out k hlt2
              rw [eq_bstr (tx.getD k ByteArray.empty)] at hcy
              generalize (tx.getD k ByteArray.empty).data.toList = t at *
              have keyx : ∀ w' : World, Below B w1 w' → w'.cell? (x.add k) = some (.int .u8 (c : Int)) := fun w' hb' => by
                rw [World.cell?_of_block (w := w1) (w' := w') (a := x.add k) (hb'.block _ (by rw [Addr.add_block, HB.out]; exact hx))]; exact hcx
              have keyy : ∀ w' : World, Below B w1 w' → w'.cell? (y.add k) = some (.string (bstr t)) := fun w' hb' => by
                rw [World.cell?_of_block (w := w1) (w' := w') (a := y.add k) (hb'.block _ (by rw [Addr.add_block, HB.out]; exact hy))]; exact hcy
              have cx := keyx wr HBW.out
              have cy := keyy wr HBW.out
              clear hcx hcy keyx hsz
              have KY := Lib.hid keyy; clear keyy
              have hBz : B ≤ wr.heap.size := by rw [HB.out]; exact HBW.out.size
              have hk1i : (k : Int) < (n1 : Int) := by omega
              have hk2i : (k : Int) < (n2 : Int) := by omega
              cases hnm : Regs.name c with
              | false =>
                have hput := Put_bad (.pointer (some ⟨B, 0, none⟩)) c t wr hc256 hnm
                have hN := fun w => Name_any c w hc256
                rw [hnm] at hN
                have HP := Lib.hid hput; clear hput
                have HN := Lib.hid hN; clear hN hnm
                generalize hfa : F lk = fa at *
                have HFA := Lib.hid hfa; clear hfa
                generalize hfb : F 34 = fb at *
                have HFB := Lib.hid hfb; clear hfb
                go_wp2_with fail
                refine HP.out.mono ?_
                rintro e w3 ⟨rfl, rfl⟩
                go_wp2_with fail
                refine (HN.out _).mono ?_
                rintro e w3 ⟨rfl, rfl⟩
                go_wp2_with fail
                go_roundw
                case rel => exact ⟨k + 1, m, F, cut, by omega, by omega, by omega, by rw [HFA.out], by rw [HFB.out], by go_num, Lib.hid (fun x => by have := HF.out x; omega), HR, HBW⟩
                case measure => simp [intOf]; omega
              | true =>
                have hFk := HF.out
                have hput := Put_ok B B m F cut c t wr HR.out hc256 hnm hBz (by have := hFk (Regs.small c); omega) (by omega)
                have hput2 : Calls Try.prog 21 #[.pointer (some ⟨B, 0, none⟩), .int .u8 (c : Int), .string (bstr t)] wr fun e w' => e = .returned .nilIface ∧ RegsAt w' B B (m + 2) (Regs.next F c t) cut ∧ Below B wr w' := hput
                clear hput
                have HP := Lib.hid hput2; clear hput2
                have hFn := Regs.next_len F c t (60 * k) hFk hl60
                have HFN := Lib.hid hFn; clear hFn hFk
                have hsf := Regs.text_suffix F c t
                have hna := Regs.next_at F c t
                have hnl := Regs.next_last F c t
                have hTl : (Regs.text F c t).length ≤ 60 * k + 60 := by rw [← hnl]; exact HFN.out 34
                have hfar := Regs.name_far c hnm
                obtain ⟨F', hF'⟩ : ∃ F', F' = Regs.next F c t := ⟨_, rfl⟩
                have hgv : ∀ w', RegsAt w' B B (m + 2) F' cut → Calls Try.prog 19 #[.pointer (some ⟨B, 0, none⟩), .int .u8 (c : Int)] w' fun e w'' => e = .returned (.tuple #[.string (bstr (Regs.text F c t)), .nilIface]) ∧ w' = w'' := fun w' h => by
                  have := Get_name B B (m + 2) F' cut c w' h hc256 hnm hfar
                  rw [hF', hna] at this
                  exact this
                have hwant : (c = lk → F' lk = t) ∧ (c = lk - 32 → F' lk = F lk ++ t) ∧ (c ≠ lk → c ≠ lk - 32 → F' lk = F lk) := by
                  rw [hF']
                  refine ⟨?_, ?_, ?_⟩
                  · intro h
                    have h9 := Regs.small_letter lk hlk1 hlk2
                    subst h
                    rw [h9.1] at hna
                    rw [hna]; unfold Regs.text; rw [h9.2]; rfl
                  · intro h
                    have h9 := Regs.small_great lk hlk1 hlk2
                    rw [← h] at h9
                    rw [h9.1] at hna
                    rw [hna]; unfold Regs.text; rw [h9.2, if_pos rfl, h9.1]
                  · intro h h'
                    exact Regs.next_far F c lk t (Regs.small_other c lk hlk1 hlk2 h h') (by omega)
                rw [← hF'] at HP HFN hnl
                clear hna hnm hfar hF'
                have HGV := Lib.hid hgv; clear hgv
                have HNL := Lib.hid hnl; clear hnl
                generalize Regs.text F c t = T at *
                have HW := Lib.hid hwant; clear hwant
                have HLL : Hid ((F lk).length ≤ 60 * k) := Lib.hid (HF.out lk)
                generalize F lk = fa at *
                generalize F 34 = fb at *
                have HSF := Lib.hid hsf; clear hsf
                have hlkc : IntKind.u8.wrap ((lk : Int) - 32) = (lk : Int) - 32 := by rw [IntKind.wrap_u8]; omega
                rcases (by omega : c = lk ∨ c = lk - 32 ∨ (c ≠ lk ∧ c ≠ lk - 32)) with hcc | hcc | hcc
                case' inl =>
                  have q1 : ((c : Int) == (lk : Int)) = true := by rw [beq_iff_eq]; omega
                  have HWK := Lib.hid (HW.out.1 hcc)
                case' inr.inl =>
                  have q1 : ((c : Int) == (lk : Int)) = false := by rw [beq_eq_false_iff_ne]; omega
                  have q2 : ((c : Int) == (lk : Int) - 32) = true := by rw [beq_iff_eq]; omega
                  have HWK := Lib.hid (HW.out.2.1 hcc)
                  have hcat : ¬ 9223372036854775807 < fa.length + t.length := by have := HLL.out; omega
                case' inr.inr =>
                  have q1 : ((c : Int) == (lk : Int)) = false := by rw [beq_eq_false_iff_ne]; omega
                  have q2 : ((c : Int) == (lk : Int) - 32) = false := by rw [beq_eq_false_iff_ne]; omega
                  have HWK := Lib.hid (HW.out.2.2 hcc.1 hcc.2)
                all_goals
                  clear hcc HW
                  go_wp2_with fail
                  refine HP.out.mono ?_
                  rintro e w3 ⟨rfl, hr3, hb3⟩
                  have hb4 : Below B w1 w3 := HBW.out.trans hb3
                  have cy3 := KY.out w3 hb4
                  have hg3 := HGV.out w3 hr3
                  have HR3 := Lib.hid hr3; clear hr3
                  have HB4 := Lib.hid hb4; clear hb4 hb3
                  have HG3 := Lib.hid hg3; clear hg3
                  go_wp2_with fail
                  refine HG3.out.mono ?_
                  rintro e w4 ⟨rfl, rfl⟩
                  go_wp2_with fail
                  refine (Try.strings_HasSuffix (bstr T) (bstr t) _ (by rw [bstr_size]; omega)).mono ?_
                  rintro e w4 ⟨rfl, rfl⟩
                  rw [bstr_data, bstr_data, HSF.out]
                  go_wp2_with fail
                  go_roundw
                  case rel => exact ⟨k + 1, m + 2, F', cut, by omega, by omega, by omega, by rw [HWK.out], by rw [HNL.out], by go_num, Lib.hid (fun x => by have := HFN.out x; omega), HR3, HB4⟩
                  case measure => simp [intOf]; omega
            · obtain rfl : k = n2 := by omega
              have hki : (k : Int) < (n1 : Int) := by omega
              have hd : decide ((k : Int) < (k : Int)) = false := by simp
              have gA := Get_name B B m F cut lk wr HR.out (by omega) (Regs.name_letter lk hlk1 hlk2) (.inr (by omega))
              rw [(Regs.small_letter lk hlk1 hlk2).1] at gA
              have gB : Calls Try.prog 19 #[.pointer (some ⟨B, 0, none⟩), .int .u8 34] wr fun e w' => e = .returned (.tuple #[.string (bstr (F 34)), .nilIface]) ∧ wr = w' := Get_name B B m F cut 34 wr HR.out (by decide) (by decide) (.inl (by decide))
              generalize F lk = fa at *
              generalize F 34 = fb at *
              have GA := Lib.hid gA; clear gA
              have GB := Lib.hid gB; clear gB
              go_wp2_with fail
              refine GA.out.mono ?_
              rintro e w3 ⟨rfl, rfl⟩
              go_wp2_with fail
              refine GB.out.mono ?_
              rintro e w3 ⟨rfl, rfl⟩
              have hq1 : ((bstr fa).toList == (bstr fa).toList) = true := by simp
              have hq2 : ((bstr fb).toList == (bstr fb).toList) = true := by simp
              go_wp2_with fail
              go_ret
              exact ⟨rfl, hb1.trans (HBW.out.mono (by rw [HB.out]; exact hb1.size))⟩
          · obtain rfl : k = n1 := by omega
            have hd : decide ((k : Int) < (k : Int)) = false := by simp
            have gA := Get_name B B m F cut lk wr HR.out (by omega) (Regs.name_letter lk hlk1 hlk2) (.inr (by omega))
            rw [(Regs.small_letter lk hlk1 hlk2).1] at gA
            have gB : Calls Try.prog 19 #[.pointer (some ⟨B, 0, none⟩), .int .u8 34] wr fun e w' => e = .returned (.tuple #[.string (bstr (F 34)), .nilIface]) ∧ wr = w' := Get_name B B m F cut 34 wr HR.out (by decide) (by decide) (.inl (by decide))
            generalize F lk = fa at *
            generalize F 34 = fb at *
            have GA := Lib.hid gA; clear gA
            have GB := Lib.hid gB; clear gB
            go_wp2_with fail
            refine GA.out.mono ?_
            rintro e w3 ⟨rfl, rfl⟩
            go_wp2_with fail
            refine GB.out.mono ?_
            rintro e w3 ⟨rfl, rfl⟩
            have hq1 : ((bstr fa).toList == (bstr fa).toList) = true := by simp
            have hq2 : ((bstr fb).toList == (bstr fb).toList) = true := by simp
            go_wp2_with fail
            go_ret
            exact ⟨rfl, hb1.trans (HBW.out.mono (by rw [HB.out]; exact hb1.size))⟩
    · have hnd2 : decide ((30 : Int) < (n2 : Int)) = true := by rw [decide_eq_true_eq]; omega
      go_wp2_with fail
      go_ret
      exact ⟨rfl, hb1⟩
  · have hnd1 : decide ((30 : Int) < (n1 : Int)) = true := by rw [decide_eq_true_eq]; omega
    go_wp2_with fail
    go_ret
    exact ⟨rfl, hb1⟩
end Go.Proofs.Ytmmkbjinkdgdbaa
