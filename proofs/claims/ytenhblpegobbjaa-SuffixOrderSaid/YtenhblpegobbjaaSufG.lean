/- The law SuffixOrder. -/
import Derived.Test.YtenhblpegobbjaaSufB
import Derived.Test.YtenhblpegobbjaaSufF
import Derived.Test.YtenhblpegobbjaaMapI
import Derived.Laws.Cover1
namespace Go.Proofs.Ytenhblpegobbjaa
open Go.RowKit
set_option linter.unusedVariables false
set_option linter.unusedSimpArgs false
open Suf
theorem bstr_drop (l : List UInt8) (j : Nat) : (bstr l).extract j l.length = bstr (l.drop j) := by
  apply ByteArray.ext
  apply Array.ext'
  rw [ByteArray.data_extract, Array.toList_extract]
  show List.extract l j l.length = l.drop j
  rw [List.extract_eq_take_drop]
  exact List.take_of_length_le (by rw [List.length_drop]; exact Nat.le_refl _)
theorem bstr_take (l : List UInt8) (n : Nat) : (bstr l).extract 0 n = bstr (l.take n) := by
  apply ByteArray.ext
  apply Array.ext'
  rw [ByteArray.data_extract, Array.toList_extract]
  show List.extract l 0 n = l.take n
  rw [List.extract_eq_take_drop, List.drop_zero, Nat.sub_zero]
theorem less_of : ∀ P Q : List UInt8, P < Q → Op.bytesLess P Q = true
  | P, [], h => absurd h (List.not_lt_nil P)
  | [], b :: y, _ => rfl
  | a :: x, b :: y, h => by
    have hor : a < b ∨ a = b ∧ x < y := List.cons_lt_cons_iff.1 h
    by_cases hab : a < b
    · simp [Op.bytesLess, hab]
    · have h2 : a = b ∧ x < y := hor.resolve_left hab
      have h3 := less_of x y h2.2
      simp [Op.bytesLess, h2.1, h3]
theorem cmp_is : CmpIs := fun V kb nb cb rb fb k s R h hf i j hi hj => cmp_any V kb nb cb rb fb k s R h hf i j hi hj
/-- what the law holds in a round -/
structure SO (w wr : World) (l : List UInt8) (g1 g2 B n : Nat) (A C : List Nat) (k : Nat) : Prop where
  map : ∃ F, MapI Try.prog 3 3 wr B n F ∧ ∀ y, k ≤ y → y < l.length → F ((A.getD y 0 : Nat) : Int) = 0
  ra : RowAt wr g1 0 3 (nvals .i64 A)
  rc : RowAt wr g2 0 3 (nvals .i64 C)
  below : Below w.heap.size w wr
  ne : g1 ≠ B ∧ g2 ≠ B
  hB : w.heap.size ≤ B
theorem SO.put {w wr w' : World} {l : List UInt8} {g1 g2 B n : Nat} {A C : List Nat} {k : Nat} {F : Int → Int} (h : SO w wr l g1 g2 B n A C k) (hS : Sorted l A) (hk : k < l.length) (hF : ∀ y, k ≤ y → y < l.length → F ((A.getD y 0 : Nat) : Int) = 0) (hm : MapI Try.prog 3 3 w' B (n + 1) (updI F ((A.getD k 0 : Nat) : Int) 1)) (hg : wr.grownBy w' (some B)) : SO w w' l g1 g2 B (n + 1) A C (k + 1) :=
  ⟨⟨_, hm, fun y hy hyn => by
    rw [updI_other _ _ _ _ (by
      intro e
      have e2 : A.getD y 0 = A.getD k 0 := by omega
      have := hS.inj l hyn hk e2
      omega)]
    exact hF y (by omega) hyn⟩,
    h.ra.of_heap (hg.block g1 h.ra.lt (by intro e; injection e with e; exact h.ne.1 e)), h.rc.of_heap (hg.block g2 h.rc.lt (by intro e; injection e with e; exact h.ne.2 e)),
    h.below.grown hg h.below.size (fun x e => by cases e; exact h.hB), h.ne, h.hB⟩
theorem SO.drewN {w wr : World} {l : List UInt8} {g1 g2 B n : Nat} {A C : List Nat} {k : Nat} (h : SO w wr l g1 g2 B n A C k) (q : Nat) : SO w (wr.drewN q) l g1 g2 B n A C k := by
  obtain ⟨F, hF, h2⟩ := h.map
  exact ⟨⟨F, hF.drewN q, h2⟩, h.ra.drewN q, h.rc.drewN q, bdrewN h.below q, h.ne, h.hB⟩
set_option maxRecDepth 100000 in
set_option maxHeartbeats 4000000 in
theorem SuffixOrder_walk (s : ByteArray) (hs : s.size ≤ 140737488351232) (w : World) :
    Calls Try.prog 12 #[.string s] w fun e w' => e = .returned (.bool true) ∧ Below w.heap.size w w' := by
  obtain ⟨l, rfl⟩ : ∃ l, s = bstr l := ⟨_, eq_bstr s⟩
  rw [bstr_size] at hs
  go_enter Try.func12, Try.ntmps12
  go_wp2_with fail
  refine (sorted_any cmp_is _).mono ?_
  rintro e w1 ⟨rfl, hb1⟩
  have HB1 := Lib.hid hb1
  clear hb1
  by_cases h3 : 300 < l.length
  · have d1 : decide ((300 : Int) < (l.length : Int)) = true := decide_eq_true (by omega)
    have d1n : decide (300 < l.length) = true := decide_eq_true h3
    go_wp2_with fail
    go_ret
    exact ⟨rfl, HB1.out⟩
  · have d1 : decide ((300 : Int) < (l.length : Int)) = false := decide_eq_false (by omega)
    have d1n : decide (300 < l.length) = false := decide_eq_false h3
    have h30 : l.length ≤ 300 := by omega
    clear h3
    go_wp2_with fail
    refine (Sort_any cmp_is l w1 (by omega)).mono ?_
    rintro e w2 ⟨g1, A, rfl, hS, hr1, hg1, hb2⟩
    have HS := Lib.hid hS; have HR1 := Lib.hid hr1; have HB2 := Lib.hid (HB1.out.trans (hb2.mono HB1.out.size))
    clear hS hr1 hg1 hb2 HB1
    go_wp2_with fail
    refine (Common_any cmp_is l w2 (by omega)).mono ?_
    rintro e w3 ⟨g2, A2, C, rfl, hS2, hC, hr2, hg2, hb3⟩
    obtain rfl := hS2.unique l HS.out
    have HC := Lib.hid hC; have HR2 := Lib.hid hr2; have HR1b := Lib.hid (HR1.out.below hb3 HR1.out.lt); have HB3 := Lib.hid (HB2.out.trans (hb3.mono HB2.out.size))
    clear hS2 hC hr2 hg2 hb3 HR1 HB2
    have hmm : ∀ V : World, (Instr.makeMap 82 none).run Try.prog V = .ok (.map (some V.heap.size)) (V.alloc (.map #[] 0)) := fun V => by kernel_rfl
    have HSO0 : Hid (SO w (w3.alloc (.map #[] 0)) l g1 g2 w3.heap.size 0 A2 C 0) := Lib.hid
      ⟨⟨_, MapI.made w3, fun y _ _ => rfl⟩, HR1b.out.alloc _, HR2.out.alloc _, HB3.out.alloc HB3.out.size _, ⟨Nat.ne_of_lt HR1b.out.lt, Nat.ne_of_lt HR2.out.lt⟩, HB3.out.size⟩
    clear HR1b HR2 HB3
    go_wp2_with fail
    obtain ⟨B, hB⟩ : ∃ B, B = w3.heap.size := ⟨_, rfl⟩
    rw [← hB] at HSO0 ⊢
    clear hB hmm
    have hlA := HS.out.length l
    have hlC := HC.out.1
    have HLA := Lib.hid hlA; have HLC := Lib.hid hlC
    clear hlA hlC
    go_loopw [8] (fun v8 wr => ∃ k : Nat, v8 = .int .i64 k ∧ k ≤ l.length ∧ Hid (SO w wr l g1 g2 B k A2 C k)) (fun v8 _ => l.length - (intOf v8).toNat)
    case atStart => exact ⟨0, rfl, by omega, HSO0⟩
    case round =>
      clear HSO0
      obtain ⟨k, rfl, hk, HO⟩ := hrel
      by_cases hlt : k < l.length
      · have d2 : decide ((k : Int) < (l.length : Int)) = true := decide_eq_true (by omega)
        have d2n : decide (k < l.length) = true := decide_eq_true hlt
        have hki : (k : Int) < (l.length : Int) := by omega
        have ca := HO.out.ra.num0 k (by rw [HLA.out]; exact hlt)
        have cc := HO.out.rc.num0 k (by rw [HLC.out]; exact hlt)
        have hin := HS.out.mem l k hlt
        obtain ⟨F, hF, hF0⟩ := HO.out.map
        have hz : ∀ u : World, (zeroValue 3).run Try.prog u = .ok (.int .i64 0) u := fun u => by kernel_rfl
        have hlk := hF.look (t := 82) Try.underlying82 Try.underlying3 Try.underlying3 (hz wr) ((A2.getD k 0 : Nat) : Int) (i64_wf _ (by omega) (by omega))
        rw [hF0 k (Nat.le_refl _) hlt] at hlk
        have HF := Lib.hid hF; have HF0 := Lib.hid hF0; have HLT := Lib.hid hlt
        obtain ⟨i, hi⟩ : ∃ i, i = A2.getD k 0 := ⟨_, rfl⟩
        rw [← hi] at ca hlk hin
        obtain ⟨c, hc⟩ : ∃ c, c = C.getD k 0 := ⟨_, rfl⟩
        rw [← hc] at cc
        have HI := Lib.hid hi; have HCC := Lib.hid hc; have HIN := Lib.hid hin
        have d3 : decide ((i : Int) < 0) = false := decide_eq_false (by omega)
        have d4 : decide ((l.length : Int) ≤ (i : Int)) = false := decide_eq_false (by omega)
        have d4n : decide (l.length ≤ i) = false := decide_eq_false (by omega)
        have d5 : decide ((c : Int) < 0) = false := decide_eq_false (by omega)
        have hkm : k < maxLen := by unfold maxLen; omega
        have hiw := i64_wf (i : Int) (by omega) (by omega)
        have h1w := i64_wf (1 : Int) (by omega) (by omega)
        clear hz hF hF0 hi hc hlt hin
        by_cases hk0 : k = 0
        · have e1 : ((k : Int) == 0) = true := by rw [beq_iff_eq]; omega
          clear hk0
          go_wp2_with (at_mapUpdate; refine wpList_storeI _ rfl _ _ _ 82 rfl 3 3 Try.underlying82 Try.underlying3 Try.underlying3 B k F rfl HF.out hkm (i : Int) (1 : Int) rfl rfl hiw h1w ?_; intro w5 hm5 hg5)
          have HS1 := Lib.hid (HO.out.put HS.out HLT.out HF0.out (by rw [← HI.out]; exact hm5) hg5)
          clear hm5 hg5
          go_wp2_with fail
          go_roundw
          case rel => exact ⟨k + 1, by go_num, by have := HLT.out; omega, HS1⟩
          case measure => simp [intOf]; have := HLT.out; omega
        · have e1 : ((k : Int) == 0) = false := by rw [beq_eq_false_iff_ne]; omega
          obtain ⟨k1, hk1⟩ : ∃ k1, k1 = k - 1 := ⟨_, rfl⟩
          have hkk : k = k1 + 1 := by omega
          have hw1 : IntKind.i64.wrap ((k : Int) - 1) = (k1 : Int) := by rw [IntKind.wrap_i64]; omega
          have hk1i : (k1 : Int) < (l.length : Int) := by omega
          have hk1l : k1 < l.length := by have := HLT.out; omega
          have HKK := Lib.hid hkk; have HK1 := Lib.hid hk1l
          clear hk0 hk1 hkk hk1l
          go_wp2_with (at_mapUpdate; refine wpList_storeI _ rfl _ _ _ 82 rfl 3 3 Try.underlying82 Try.underlying3 Try.underlying3 B k F rfl HF.out hkm (i : Int) (1 : Int) rfl rfl hiw h1w ?_; intro w5 hm5 hg5)
          have HS1 := Lib.hid (HO.out.put HS.out HLT.out HF0.out (by rw [← HI.out]; exact hm5) hg5)
          clear hm5 hg5
          have ca5 := HS1.out.ra.num0 k (by rw [HLA.out]; exact HLT.out)
          have cj5 := HS1.out.ra.num0 k1 (by rw [HLA.out]; exact HK1.out)
          rw [← HI.out] at ca5
          have hjn := HS.out.mem l k1 HK1.out
          obtain ⟨j, hj⟩ : ∃ j, j = A2.getD k1 0 := ⟨_, rfl⟩
          rw [← hj] at cj5 hjn
          have hij : (i : Int) ≤ (l.length : Int) := by have := HIN.out; omega
          have hjj : (j : Int) ≤ (l.length : Int) := by omega
          have HJ := Lib.hid hj; have HJN := Lib.hid hjn
          clear hj hjn ca cc hlk
          go_wp2_with fail
          go_quiet (fail)
          rw [bstr_drop, bstr_drop]
          obtain ⟨w6, hw6⟩ : ∃ w6, w6 = w5.drewN nq := ⟨_, rfl⟩
          rw [← hw6]
          have HS6 : Hid (SO w w6 l g1 g2 B (k + 1) A2 C (k + 1)) := Lib.hid (by rw [hw6]; exact HS1.out.drewN nq)
          have cc6 := HS6.out.rc.num0 k (by rw [HLC.out]; exact HLT.out)
          rw [← HCC.out] at cc6
          have hlt6 : l.drop j < l.drop i := by
            rw [HJ.out, HI.out, HKK.out]
            exact lt_list l l.length _ _ (sorted_n l HS.out k1 (k1 + 1) (by omega) (by rw [HLA.out]; have := HLT.out; have := HKK.out; omega))
          have hlc : IsLcp l i j c := by
            have h := HC.out.2.2 k1 (by have := HLT.out; have := HKK.out; omega)
            rw [← HKK.out, ← HI.out, ← HJ.out, ← HCC.out] at h
            exact h
          have hcP : c ≤ (l.drop j).length ∧ c ≤ (l.drop i).length := by
            have h1 := HIN.out; have h2 := HJN.out
            rw [List.length_drop, List.length_drop]
            rcases Nat.eq_zero_or_pos c with h0 | h0
            · omega
            · have := hlc.1 (c - 1) (by omega)
              have h3 := this.1; have h4 := this.2.1
              omega
          have htk : (l.drop j).take c = (l.drop i).take c := by
            apply List.ext_getElem
            · rw [List.length_take, List.length_take]; omega
            · intro t t1 t2
              rw [List.length_take] at t1
              have h := (hlc.1 t (by omega)).2.2
              have h1 := (hlc.1 t (by omega)).1; have h2 := (hlc.1 t (by omega)).2.1
              rw [List.getElem_take, List.getElem_take, List.getElem_drop, List.getElem_drop]
              rw [List.getD_eq_getElem?_getD, List.getD_eq_getElem?_getD, List.getElem?_eq_getElem h1, List.getElem?_eq_getElem h2] at h
              exact h.symm
          have hnx : ∀ (h1 : c < (l.drop j).length) (h2 : c < (l.drop i).length), (l.drop j)[c] ≠ (l.drop i)[c] := by
            intro h1 h2 e
            rw [List.length_drop] at h1 h2
            refine hlc.2 ⟨by omega, by omega, ?_⟩
            rw [List.getElem_drop, List.getElem_drop] at e
            rw [List.getD_eq_getElem?_getD, List.getD_eq_getElem?_getD, List.getElem?_eq_getElem (by omega), List.getElem?_eq_getElem (by omega)]
            exact e.symm
          have HLT6 := Lib.hid hlt6; have HNX := Lib.hid hnx; have HTK := Lib.hid htk
          clear hlt6 hlc hnx htk hw6
          obtain ⟨P, hP⟩ : ∃ P, P = l.drop j := ⟨_, rfl⟩
          obtain ⟨Q, hQ⟩ : ∃ Q, Q = l.drop i := ⟨_, rfl⟩
          rw [← hP, ← hQ] at HLT6 HTK hcP ⊢
          have d6 : decide ((P.length : Int) < (c : Int)) = false := decide_eq_false (by omega)
          have d7 : decide ((Q.length : Int) < (c : Int)) = false := decide_eq_false (by omega)
          have d6n : decide (P.length < c) = false := decide_eq_false (by omega)
          have d7n : decide (Q.length < c) = false := decide_eq_false (by omega)
          have hbl := less_of P Q HLT6.out
          have hbl2 : Op.bytesLess (bstr P).toList (bstr Q).toList = true := by rw [bstr_toList, bstr_toList]; exact hbl
          obtain ⟨T, hT⟩ : ∃ T, T = P.take c := ⟨_, rfl⟩
          have hx1 : (bstr P).extract 0 c = bstr T := by rw [bstr_take, hT]
          have hx2 : (bstr Q).extract 0 c = bstr T := by rw [bstr_take, hT, HTK.out]
          have hc1 : (c : Int) ≤ (P.length : Int) := by omega
          have hc2 : (c : Int) ≤ (Q.length : Int) := by omega
          have hnx := HNX.out
          rw [← hP, ← hQ] at hnx
          have HN := Lib.hid hnx
          clear hT hnx HTK HNX HLT6 hP hQ hcP
          by_cases s1 : c < P.length
          · have d8 : decide ((c : Int) < (P.length : Int)) = true := decide_eq_true (by omega)
            have d8n : decide (c < P.length) = true := decide_eq_true s1
            have l8 : (c : Int) < (P.length : Int) := by omega
            by_cases s2 : c < Q.length
            · have d9 : decide ((c : Int) < (Q.length : Int)) = true := decide_eq_true (by omega)
              have d9n : decide (c < Q.length) = true := decide_eq_true s2
              have l9 : (c : Int) < (Q.length : Int) := by omega
              have hne : P[c].toNat ≠ Q[c].toNat := fun h => HN.out s1 s2 (UInt8.toNat_inj.1 h)
              go_wp2_with fail
              go_quiet (fail)
              go_wp2_with fail
              · rename_i hbad
                exact absurd (Int.ofNat_inj.1 (beq_iff_eq.1 hbad)) hne
              · go_roundw
                case rel => exact ⟨k + 1, by go_num, by have := HLT.out; omega, Lib.hid (HS6.out.drewN nq)⟩
                case measure => simp [intOf]; have := HLT.out; omega
            · have d9 : decide ((c : Int) < (Q.length : Int)) = false := decide_eq_false (by omega)
              have d9n : decide (c < Q.length) = false := decide_eq_false s2
              clear s1 s2
              go_wp2_with fail
              go_quiet (fail)
              go_wp2_with fail
              go_roundw
              case rel => exact ⟨k + 1, by go_num, by have := HLT.out; omega, Lib.hid (HS6.out.drewN nq)⟩
              case measure => simp [intOf]; have := HLT.out; omega
          · have d8 : decide ((c : Int) < (P.length : Int)) = false := decide_eq_false (by omega)
            have d8n : decide (c < P.length) = false := decide_eq_false s1
            clear s1
            go_wp2_with fail
            go_quiet (fail)
            go_wp2_with fail
            go_roundw
            case rel => exact ⟨k + 1, by go_num, by have := HLT.out; omega, Lib.hid (HS6.out.drewN nq)⟩
            case measure => simp [intOf]; have := HLT.out; omega
      · obtain rfl : k = l.length := by omega
        have d2 : decide ((l.length : Int) < (l.length : Int)) = false := by simp
        go_wp2_with fail
        go_ret
        exact ⟨rfl, HO.out.below⟩
end Go.Proofs.Ytenhblpegobbjaa
