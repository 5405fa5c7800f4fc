/- The laws' laidOut. -/
import Derived.Test.YtlomecfhobehnaaGreatDoorMgLayoutBack46
import Derived.Test.YtlomecfhobehnaaGreatDoorMgLayoutBack10
section
/- layout.Write. -/
namespace Go.Proofs.YtlomecfhobehnaaGreatDoor
open Go Go.RowKit
set_option linter.unusedVariables false
set_option linter.unusedSimpArgs false
open Rd
open Ly
theorem writems_any (A : List Tm.Ty) (W : Wri) (hWl : WriLe W) (ts : List Tm.Wd) (hS : ∀ nm ∈ ts, SubW A W nm) : ∀ (n : Nat) (l : Tm.Its), l.sz < n → Tm.FineI l → RefsI ts l → l.sz ≤ 100000 → ItsWr A W l
  | 0, l, h, _, _, _ => absurd h (Nat.not_lt_zero _)
  | n + 1, l, h, hF, hR, hz => by
    refine writems_step A W hWl l hF (Nat.le_trans (Tm.len_sz l) hz) (fun i a c b r hd => ?_) (fun i hh r t hd hk => ?_)
    · have h1 := Tm.fine_drop i l hF
      have h2 := refs_drop i l hR
      have h3 := Tm.sz_drop i l
      rw [hd] at h1 h2 h3
      have h4 : b.sz + 1 ≤ (Tm.Its.when a c b r).sz := by simp only [Tm.Its.sz]; omega
      exact writems_any A W hWl ts hS n b (by omega) h1.2.1 h2.1 (by omega)
    · have h2 := refs_drop i l hR
      rw [hd] at h2
      exact hS t (h2.1 t hk)
theorem subw_all (A : List Tm.Ty) (hA : ∀ t ∈ A, Tm.FineT t ∧ Tm.Its.sz t.items ≤ 100000) : ∀ (r : List Tm.Ty), (∀ t ∈ r, t ∈ A) → RChain r → ∀ nm ∈ names r, SubW A (wrS r) nm
  | [], _, _, nm, h => by cases h
  | t :: r, hm, hc, nm, h => by
    obtain ⟨c1, c2, c3⟩ := hc
    have ih := subw_all A hA r (fun t' ht' => hm t' (List.mem_cons_of_mem _ ht')) c3
    have htA := hm t (by simp)
    obtain ⟨f1, f2⟩ := hA t htA
    by_cases hn : t.name = nm
    · refine ⟨t, htA, hn, by have := nameB_len f1.1.2; omega, wrS r, fun ks => ?_, writems_any A (wrS r) (wrS_le r) (names r) ih _ t.items (Nat.lt_succ_self _) f1.2 c2 f2⟩
      show (if t.name = t.name then _ else _) = _
      rw [if_pos rfl]
    · have hr : nm ∈ names r := by
        rcases List.mem_cons.1 h with h | h
        · exact absurd h.symm hn
        · exact h
      obtain ⟨t2, g1, g2, g3, W', g4, g5⟩ := ih nm hr
      refine ⟨t2, g1, g2, g3, W', fun ks => ?_, g5⟩
      show (if t.name = t2.name then _ else _) = _
      rw [if_neg (by rw [g2]; exact hn)]
      exact g4 ks
theorem wrS_none : ∀ {l : List Tm.Ty} {nm : Tm.Wd} (_ : nm ∉ names l) (ks : Nds), wrS l nm ks = none
  | [], _, _, _ => rfl
  | t :: r, nm, h, ks => by
    show (if t.name = nm then _ else _) = _
    rw [if_neg (fun e => h (by rw [← e]; simp [names]))]
    exact wrS_none (fun h2 => h (by simp only [names, List.map_cons, List.mem_cons]; exact .inr h2)) ks
theorem oneW_root {l : List Tm.Ty} {root : Tm.Wd} {d : Nd} {u : Tm.Wd} (h : oneW (wrS l) (rootH root) d = some u) : root ∈ names l := by
  by_cases hm : root ∈ names l
  · exact hm
  · obtain ⟨_, _, h3⟩ := oneW_some h
    rw [show (rootH root).k = .struct root from rfl] at h3
    have h4 : wrS l root d.kids = some u := h3
    rw [wrS_none hm] at h4
    cases h4
/-- what Write's closure finds -/
structure WcS (U W : World) (rb fb B : Nat) (A : List Tm.Ty) (root : Tm.Wd) (d : Nd) (gk : Option Addr) (gcap : Nat) (vs : List Value) (b1 : List Nat) (c0 c1 cn cs : Nat) : Prop where
  bel : Below U.heap.size U W
  form : FormM U W rb fb A
  r0 : RowAt W c0 0 59 [.map (some fb)]
  r1 : RowAt W c1 0 9 [.string (bstr root)]
  r2 : RowAt W cn 0 28 (ndCells d.name d.kind d.at_ d.size d.val d.text (.slice gk d.kids.len gcap))
  r3 : RowAt W cs 0 9 [.string { data := #[] }]
  own : Owns W B 28 7 gk d.kids.len gcap vs
  enc : EncN W B d.kids b1 vs
theorem WcS.up {U W W' : World} {rb fb B : Nat} {A : List Tm.Ty} {root : Tm.Wd} {d : Nd} {gk : Option Addr} {gcap : Nat} {vs : List Value} {b1 : List Nat} {c0 c1 cn cs : Nat} (h : WcS U W rb fb B A root d gk gcap vs b1 c0 c1 cn cs) (hb : Below W.heap.size W W') : WcS U W' rb fb B A root d gk gcap vs b1 c0 c1 cn cs :=
  ⟨h.bel.trans (hb.mono h.bel.size), h.form.keep (hb.block _ h.form.lt), h.r0.below hb h.r0.lt, h.r1.below hb h.r1.lt, h.r2.below hb h.r2.lt, h.r3.below hb h.r3.lt, h.own.below hb (Nat.le_refl _), h.enc.keep _ _ _ (fun b hbl => hb.block b (h.enc.mem _ _ _ b hbl).2)⟩
set_option maxRecDepth 100000 in
set_option maxHeartbeats 1000000 in
theorem writeC_any (U W : World) (rb fb B : Nat) (A : List Tm.Ty) (root u : Tm.Wd) (d : Nd) (gk : Option Addr) (gcap : Nat) (vs : List Value) (b1 : List Nat) (c0 c1 cn cs : Nat) (h : WcS U W rb fb B A root d gk gcap vs b1 c0 c1 cn cs) (hsub : SubW A (wrS A.reverse) root) (ho : oneW (wrS A.reverse) (rootH root) d = some u) (hok : d.ok) (htot : d.tot ≤ 1000000) :
    Calls Tryz.prog 32 #[.pointer (some ⟨c0, 0, none⟩), .pointer (some ⟨c1, 0, none⟩), .pointer (some ⟨cn, 0, none⟩), .pointer (some ⟨cs, 0, none⟩)] W fun e w1 => e = .returned (.tuple #[]) ∧ ∃ w0, Below W.heap.size W w0 ∧ w1 = w0.setCell ⟨cs, 0, none⟩ (.string (bstr u)) := by
  obtain ⟨t, ht, hnm, htl, W', hW, hI⟩ := hsub
  subst hnm
  have k0 := h.r0.cell0 0 (by simp); have k1 := h.r1.cell0 0 (by simp)
  simp only [List.getElem_cons_zero] at k0 k1
  obtain ⟨V, hV⟩ : ∃ V, V = W.alloc (.cells #[.int .i64 3, .int .i64 0, .string (bstr t.name), .string (bstr t.name), .int .i64 0, .int .i64 0, .bool false, .bool false, .pointer none, .int .i64 0, .string { data := #[] }, .string { data := #[] }, .slice none 0 0] 70) := ⟨_, rfl⟩
  have hrow : RowAt V W.heap.size 0 70 (Tm.hdCells (rootH t.name) (.pointer none)) := by rw [hV]; exact RowAt.new W _ _
  have hbV : Below W.heap.size W V := by rw [hV]; exact (Below.refl _ _).alloc (Nat.le_refl _) _
  have hV2 := h.up hbV
  have hC := onew_struct A (wrS A.reverse) W' t ht hW hI htl (.pointer none) cn 0 W.heap.size 0 (rootH t.name) d u U V rb fb B gcap gk vs b1 hV2.bel hV2.form rfl ho hrow hV2.r2 hok.2 (by unfold Nd.tot at htot; omega) hV2.own hV2.enc
  have HC := Lib.hid hC
  have HV := Lib.hid hV; have HBV := Lib.hid hbV; have HR3 := Lib.hid hV2.r3
  clear h hC hrow hV hbV hV2 hW hI ho hok htot
  go_enter Tryz.func32, Tryz.ntmps32
  go_wp2_with fail
  rw [← HV.out]
  refine HC.out.mono ?_
  rintro e w2 ⟨hb2, rfl⟩
  have hr3 := HR3.out.below hb2 HR3.out.lt
  have y0 := hr3.cell0 0 (by simp); have z0 := hr3.frozen0 0 (by simp)
  simp only [List.getElem_cons_zero] at y0
  have HB2 := Lib.hid (HBV.out.trans (hb2.mono HBV.out.size))
  clear hb2 hr3 k0 k1
  go_wp2_with fail
  refine bodyPost_end (results_none rfl _ _ _) rfl ?_
  exact ⟨rfl, w2, HB2.out, rfl⟩
set_option maxRecDepth 100000 in
set_option maxHeartbeats 1000000 in
theorem LWrite_any (tys : List Tm.Ty) (root u : Tm.Wd) (d : Nd) (w : World) (rb cap B Bn : Nat) (a : Option Addr) (vs : List Value) (v : Value) (bl : List Nat) (ho : Owns w B 97 3 a tys.length cap vs) (he : Tm.EncT w rb tys vs) (hF : ∀ t ∈ tys, Tm.FineT t ∧ Tm.Its.sz t.items ≤ 100000) (hn : tys.length ≤ 100) (hch : RChain tys.reverse)
    (hr : root.length ≤ 200000000000000) (hd : NdV w Bn bl d v) (hok : d.ok) (htot : d.tot ≤ 1000000) (hw : oneW (wrS tys.reverse) (rootH root) d = some u) :
    Calls Tryz.prog 10 #[.slice a tys.length cap, .string (bstr root), v] w fun e w' => Below w.heap.size w w' ∧ e = .returned (.tuple #[.string (bstr u), .nilIface]) := by
  have hnd : (tys.map (·.name)).Nodup := by
    have := chain_nodup hch
    rw [List.map_reverse] at this
    exact (List.pairwise_reverse.1 this).imp (fun h => Ne.symm h)
  have hfo := fun W (hW : Below w.heap.size w W) => formOf_any tys w W hW rb cap B a vs ho he (fun t ht => (hF t ht).1) hn hnd
  have hroot : root ∈ names tys := (names_rev tys root).1 (oneW_root hw)
  have hsub := subw_all tys hF tys.reverse (fun t ht => List.mem_reverse.1 ht) hch root (oneW_root hw)
  obtain ⟨n, hn'⟩ : ∃ n, n = tys.length := ⟨_, rfl⟩
  rw [← hn'] at hfo ⊢
  obtain ⟨gk, gcap, ks, b1, hv, hbl, hkO, hkE⟩ := hd
  have hv2 : v = .agg #[.string (bstr d.name), .int .i64 (d.kind : Nat), .int .i64 (d.at_ : Nat), .int .i64 (d.size : Nat), .int .i64 d.val, .string (bstr d.text), .slice gk d.kids.len gcap] := hv
  subst hv2
  obtain ⟨W2, hW2⟩ : ∃ W2, W2 = (w.alloc (.cells #[.string (bstr root)] 9)).alloc (.cells #[.string (bstr d.name), .int .i64 (d.kind : Nat), .int .i64 (d.at_ : Nat), .int .i64 (d.size : Nat), .int .i64 d.val, .string (bstr d.text), .slice gk d.kids.len gcap] 28) := ⟨_, rfl⟩
  have hb2 : Below w.heap.size w W2 := by rw [hW2]; exact ((Below.refl _ _).alloc (Nat.le_refl _) _).alloc (by simp) _
  have h20 : RowAt W2 w.heap.size 0 9 [.string (bstr root)] := by rw [hW2]; exact (RowAt.new w _ _).alloc _
  have h21 : RowAt W2 (w.heap.size + 1) 0 28 (ndCells d.name d.kind d.at_ d.size d.val d.text (.slice gk d.kids.len gcap)) := by rw [hW2]; exact RowAt.new' _ _ (by simp) _ _
  have HFO := Lib.hid (hfo W2 hb2)
  have HW2 := Lib.hid hW2
  have H2 := Lib.hid (And.intro hb2 (And.intro h20 h21))
  have HKK := Lib.hid (And.intro hkO hkE)
  have HROOT := Lib.hid hroot; have HSUB := Lib.hid hsub; have HOK := Lib.hid (And.intro hok htot); have HWW := Lib.hid hw
  clear hfo ho he hn' hW2 hb2 h20 h21 hkO hkE hroot hsub hok htot hw hbl hnd hv
  go_enter Tryz.func10, Tryz.ntmps10
  go_wp2_with fail
  rw [← HW2.out]
  refine HFO.out.mono ?_
  rintro e w4 ⟨rfl, hb4, hf4⟩
  have hb24 : Below w.heap.size w w4 := H2.out.1.trans (hb4.mono H2.out.1.size)
  obtain ⟨lv, hlk⟩ := hf4.look_ok hr
  have q1 : decide (root ∈ names tys) = true := decide_eq_true HROOT.out
  rw [q1] at hlk
  obtain ⟨V, hV⟩ : ∃ V, V = w4.alloc (.cells #[.map (some W2.heap.size)] 59) := ⟨_, rfl⟩
  have hbV : Below w4.heap.size w4 V := by rw [hV]; exact (Below.refl _ _).alloc (Nat.le_refl _) _
  have hl0 := hlk V (hbV.block _ hf4.lt)
  have hr0 : RowAt V w4.heap.size 0 59 [.map (some W2.heap.size)] := by rw [hV]; exact RowAt.new w4 _ _
  have hr1 : RowAt V w.heap.size 0 9 [.string (bstr root)] := (H2.out.2.1.below hb4 H2.out.2.1.lt).below hbV (Nat.lt_of_lt_of_le H2.out.2.1.lt hb4.size)
  have hr2 : RowAt V (w.heap.size + 1) 0 28 _ := (H2.out.2.2.below hb4 H2.out.2.2.lt).below hbV (Nat.lt_of_lt_of_le H2.out.2.2.lt hb4.size)
  have hfV := hf4.keep (hbV.block _ hf4.lt)
  have hbwV : Below w.heap.size w V := hb24.trans (hbV.mono hb24.size)
  have c0 := hr0.cell0 0 (by simp); have c1 := hr1.cell0 0 (by simp)
  simp only [List.getElem_cons_zero] at c0 c1
  rw [hV] at c0 c1 hl0
  have HR := Lib.hid (And.intro hr0 (And.intro hr1 (And.intro hr2 (And.intro hfV hbwV))))
  have HV := Lib.hid hV
  clear hb4 hf4 hb24 hlk hbV hr0 hr1 hr2 hfV hbwV hV
  go_wp2_with fail
  rw [← HV.out]
  obtain ⟨hr0, hr1, hr2, hfV, hbwV⟩ := HR.out
  have hVs : V.heap.size = w4.heap.size + 1 := by rw [HV.out]; simp
  obtain ⟨V1, hV1⟩ : ∃ V1, V1 = V.alloc (.cells #[.string { data := #[] }] 9) := ⟨_, rfl⟩
  rw [← hV1]
  have hbV1 : Below V.heap.size V V1 := by rw [hV1]; exact (Below.refl _ _).alloc (Nat.le_refl _) _
  have hcs : RowAt V1 (w4.heap.size + 1) 0 9 [.string { data := #[] }] := by rw [hV1]; exact RowAt.new' _ _ hVs.symm _ _
  have hb1 : Below w.heap.size w V1 := hbwV.trans (hbV1.mono hbwV.size)
  have hWC : WcS w V1 rb W2.heap.size Bn tys root d gk gcap ks b1 w4.heap.size w.heap.size (w.heap.size + 1) (w4.heap.size + 1) := ⟨hb1, hfV.keep (hbV1.block _ hfV.lt), hr0.below hbV1 hr0.lt, hr1.below hbV1 hr1.lt, hr2.below hbV1 hr2.lt, hcs, HKK.out.1.below hb1 (Nat.le_refl _), HKK.out.2.keep _ _ _ (fun b hb => hb1.block b (HKK.out.2.mem _ _ _ b hb).2)⟩
  have hWC2 := hWC.up ((Below.refl V1.heap.size V1).alloc (Nat.le_refl _) (.cells #[.nilIface] 30))
  have hcall := writeC_any w _ rb W2.heap.size Bn tys root u d gk gcap ks b1 _ _ _ _ hWC2 HSUB.out HWW.out HOK.out.1 HOK.out.2
  have hcsl := hcs.lt
  have hCL : Calls Tryz.prog 32 #[.pointer (some ⟨w4.heap.size, 0, none⟩), .pointer (some ⟨w.heap.size, 0, none⟩), .pointer (some ⟨w.heap.size + 1, 0, none⟩), .pointer (some ⟨w4.heap.size + 1, 0, none⟩)] (V1.alloc (.cells #[.nilIface] 30))
      (ClosureOut V1 (fun w1 => ∃ w0, Below (V1.alloc (.cells #[.nilIface] 30)).heap.size (V1.alloc (.cells #[.nilIface] 30)) w0 ∧ w1 = w0.setCell ⟨w4.heap.size + 1, 0, none⟩ (.string (bstr u))) (fun _ => False)) := by
    refine hcall.mono ?_
    rintro e w1 ⟨he, w0, hb0, rfl⟩
    exact ⟨(Below.heap_setCell w0 ⟨w4.heap.size + 1, 0, none⟩ _ V1.heap.size (show V1.heap.size ≠ w4.heap.size + 1 by omega)).trans (hb0.block _ (by simp)), .inl ⟨he, w0, hb0, rfl⟩⟩
  have HCA := Lib.hid (caught_write _ _ _ _ V1 _ _ hCL)
  have HB1 := Lib.hid hb1; have HCS := Lib.hid hcs
  have HSZ := Lib.hid (show w.heap.size ≤ w4.heap.size from by have := hr0.lt; have h2 := hbwV.size; have h3 := hr1.lt; have h4 := hr2.lt; omega)
  clear hr0 hr1 hr2 hfV hbwV hV1 hbV1 hcs hb1 hWC hWC2 hcall hcsl hCL c0 c1 hl0 q1 hVs
  refine HCA.out.mono ?_
  unfold CaughtOut
  rintro e w' (⟨rfl, w1, ⟨w0, hb0, rfl⟩, rfl⟩ | ⟨t, v, rfl, w1, o, hfalse, rfl⟩)
  · have hrc : RowAt (w0.setCell ⟨w4.heap.size + 1, 0, none⟩ (.string (bstr u))) (w4.heap.size + 1) 0 9 [.string (bstr u)] := ((HCS.out.alloc _).below hb0 (by have := HCS.out.lt; simp; omega)).set0 0 (by simp) _
    have hne : w4.heap.size + 1 ≠ V1.heap.size := by have := HCS.out.lt; omega
    have hrd := hrc.far (p := ⟨V1.heap.size, 0, none⟩) hne .nilIface
    have cc := hrd.cell0 0 (by simp)
    simp only [List.getElem_cons_zero] at cc
    have hbf : Below w.heap.size w ((w0.setCell ⟨w4.heap.size + 1, 0, none⟩ (.string (bstr u))).setCell ⟨V1.heap.size, 0, none⟩ .nilIface) := by
      have e1 : Below w.heap.size w w0 := (HB1.out.alloc HB1.out.size _).trans (hb0.mono (by have := HB1.out.size; simp; omega))
      exact (e1.setCell (p := ⟨w4.heap.size + 1, 0, none⟩) (show w.heap.size ≤ w4.heap.size + 1 by have := HSZ.out; omega) _).setCell (p := ⟨V1.heap.size, 0, none⟩) HB1.out.size _
    have HBF := Lib.hid hbf
    clear hb0 hrc hrd hbf hne
    go_wp2_with fail
    go_ret2
    exact ⟨HBF.out, rfl⟩
  · exact hfalse.elim
end Go.Proofs.YtlomecfhobehnaaGreatDoor
end
section
/- The laws' right. -/
namespace Go.Proofs.YtlomecfhobehnaaGreatDoor
open Go Go.RowKit
set_option linter.unusedVariables false
set_option linter.unusedSimpArgs false
open Rd
open Ly
/-- how right ends: with no templates, or with some that fit -/
def RightOut (w : World) (e : Ending) (w' : World) : Prop := Below w.heap.size w w' ∧ ((∃ a n c, e = .returned (.tuple #[.slice a n c, .bool false])) ∨
  ∃ s2 tys a cap vs, List.length s2 ≤ 3000 ∧ TysM w' w.heap.size s2 tys a cap vs ∧ Tm.chk [] tys = none ∧ e = .returned (.tuple #[.slice a (List.length tys) cap, .bool true]))
set_option maxRecDepth 100000 in
set_option maxHeartbeats 4000000 in
theorem right_text (s : List UInt8) (hne : s ≠ []) (w : World) (hB : Base w) : Calls Tryz.prog 8 #[.string (bstr s)] w (RightOut w) := by
  have q0 : (s == []) = false := beq_eq_false_iff_ne.2 hne
  have q1 : s.isEmpty = false := by cases s; exact absurd rfl hne; rfl
  have HLG := Lib.hid (fun W => long_any s W)
  have HB := Lib.hid hB
  clear hB hne
  go_enter Tryz.func8, Tryz.ntmps8
  go_wp2_with fail
  refine (HLG.out _).mono ?_
  rintro e w1 ⟨rfl, rfl⟩
  by_cases h9 : 900 < s.length
  · have d9 : decide (900 < s.length) = true := decide_eq_true h9
    go_wp2_with fail
    go_ret2
    exact ⟨Below.refl _ _, .inl ⟨_, _, _, rfl⟩⟩
  · have d9 : decide (900 < s.length) = false := decide_eq_false h9
    have hs3 : s.length ≤ 3000 := by omega
    have HS3 := Lib.hid hs3
    have HPS := Lib.hid (parse_read s w hs3 HB.out)
    clear h9 hs3 HLG
    go_wp2_with fail
    refine HPS.out.mono ?_
    rintro e w2 ⟨hb2, ⟨tys, a, cap, vs, hm, rfl⟩ | ⟨hno, g, rfl⟩⟩
    · have HSS := True.intro
      have HM := Lib.hid hm
      have HB2 := Lib.hid hb2
      have HCK := Lib.hid (check_read (hm.up (Below.refl w2.heap.size w2).drew) HS3.out)
      obtain ⟨n, hn⟩ : ∃ n, n = tys.length := ⟨_, rfl⟩
      rw [← hn] at HCK ⊢
      have HN := Lib.hid hn
      obtain ⟨o, ho⟩ : ∃ o, o = Tm.chk [] tys := ⟨_, rfl⟩
      rw [← ho] at HCK
      unfold CheckOut at HCK
      have HO := Lib.hid ho
      clear hm hb2 hn ho HPS
      go_wp2_with fail
      cases o with
      | none =>
        go_region_held3 (fun _ => True) (trivial)
          (first
            | (go_at_call 26; (refine HCK.out.mono ?_); (rintro e w8 ⟨hb8, rfl⟩)))
        all_goals
          have HB8 := Lib.hid (show Below w2.heap.size w2 w8 from Below.trans (Below.refl _ _).drew hb8)
          clear hb8
          go_wp2_with fail
          go_ret2
          refine ⟨HB2.out.trans (HB8.out.mono HB2.out.size), .inr ⟨s, tys, a, cap, vs, HS3.out, HM.out.up HB8.out, HO.out.symm, ?_⟩⟩
          rw [← HN.out]
          rfl
      | some k =>
        go_region_held3 (fun _ => True) (trivial)
          (first
            | (go_at_call 26; (refine HCK.out.mono ?_); (rintro e w8 ⟨hb8, g8, p8, rfl, _⟩)))
        all_goals
          have HB8 := Lib.hid (show Below w2.heap.size w2 w8 from Below.trans (Below.refl _ _).drew hb8)
          clear hb8
          go_wp2_with fail
          go_ret2
          exact ⟨HB2.out.trans (HB8.out.mono HB2.out.size), .inl ⟨_, _, _, rfl⟩⟩
    · have HB2 := Lib.hid hb2
      clear hno hb2 HPS
      go_wp2_with fail
      go_quiet (fail)
      go_wp2_with fail
      go_ret2
      exact ⟨bdrewN HB2.out _, .inl ⟨_, _, _, rfl⟩⟩
set_option maxRecDepth 100000 in
set_option maxHeartbeats 4000000 in
theorem right_none (w : World) (hB : Base w) : Calls Tryz.prog 8 #[.string (bstr [])] w (RightOut w) := by
  have hbl : (Tm.prTs Tm.boxTy).length ≤ 3000 := by rw [Tm.box_len]; omega
  have HS3 := Lib.hid hbl
  have hlg := fun W => long_any (Tm.prTs Tm.boxTy) W
  rw [show decide (900 < (Tm.prTs Tm.boxTy).length) = false by rw [Tm.box_len]; rfl] at hlg
  have hps := parse_read (Tm.prTs Tm.boxTy) w hbl hB
  rw [Tm.box_pr] at hlg hps
  have HLG := Lib.hid hlg
  have HPS := Lib.hid hps
  clear hlg hps hB hbl
  go_enter Tryz.func8, Tryz.ntmps8
  go_wp2_with fail
  refine (HLG.out _).mono ?_
  rintro e w1 ⟨rfl, rfl⟩
  clear HLG
  go_wp2_with fail
  refine HPS.out.mono ?_
  rintro e w2 ⟨hb2, ⟨tys, a, cap, vs, hm, rfl⟩ | ⟨hno, g, rfl⟩⟩
  · rw [← Tm.box_pr] at hm
    have HM := Lib.hid hm
    have HB2 := Lib.hid hb2
    have HCK := Lib.hid (check_read (hm.up (Below.refl w2.heap.size w2).drew) HS3.out)
    obtain ⟨n, hn⟩ : ∃ n, n = tys.length := ⟨_, rfl⟩
    rw [← hn] at HCK ⊢
    have HN := Lib.hid hn
    obtain ⟨o, ho⟩ : ∃ o, o = Tm.chk [] tys := ⟨_, rfl⟩
    rw [← ho] at HCK
    unfold CheckOut at HCK
    have HO := Lib.hid ho
    clear hm hb2 hn ho HPS
    go_wp2_with fail
    cases o with
    | none =>
      go_region_held3 (fun _ => True) (trivial)
        (first
          | (go_at_call 26; (refine HCK.out.mono ?_); (rintro e w8 ⟨hb8, rfl⟩)))
      all_goals
        have HB8 := Lib.hid (show Below w2.heap.size w2 w8 from Below.trans (Below.refl _ _).drew hb8)
        clear hb8
        go_wp2_with fail
        go_ret2
        refine ⟨HB2.out.trans (HB8.out.mono HB2.out.size), .inr ⟨Tm.prTs Tm.boxTy, tys, a, cap, vs, HS3.out, HM.out.up HB8.out, HO.out.symm, ?_⟩⟩
        rw [← HN.out]
        rfl
    | some k =>
      go_region_held3 (fun _ => True) (trivial)
        (first
          | (go_at_call 26; (refine HCK.out.mono ?_); (rintro e w8 ⟨hb8, g8, p8, rfl, _⟩)))
      all_goals
        have HB8 := Lib.hid (show Below w2.heap.size w2 w8 from Below.trans (Below.refl _ _).drew hb8)
        clear hb8
        go_wp2_with fail
        go_ret2
        exact ⟨HB2.out.trans (HB8.out.mono HB2.out.size), .inl ⟨_, _, _, rfl⟩⟩
  · have HB2 := Lib.hid hb2
    clear hno hb2 HPS
    go_wp2_with fail
    go_quiet (fail)
    go_wp2_with fail
    go_ret2
    exact ⟨bdrewN HB2.out _, .inl ⟨_, _, _, rfl⟩⟩
theorem right_any (s : List UInt8) (w : World) (hB : Base w) : Calls Tryz.prog 8 #[.string (bstr s)] w (RightOut w) := by
  by_cases h : s = []
  · subst h; exact right_none w hB
  · exact right_text s h w hB
end Go.Proofs.YtlomecfhobehnaaGreatDoor
end
section
/- The laws' laidOut. -/
namespace Go.Proofs.YtlomecfhobehnaaGreatDoor
open Go Go.RowKit
set_option linter.unusedVariables false
set_option linter.unusedSimpArgs false
open Rd
open Ly
namespace Ly
def sampleNd : Nd := ⟨wBox, 3, 0, 12, 0, [], sampleKids⟩
theorem sample_tys {tys : List Tm.Ty} (h : Tm.SameTs Tm.boxTy tys) : oneH (rdS sampleB tys.reverse) sampleB (fun _ => none) (rootH wBox) ⟨0, 0⟩ = some (sampleNd, ⟨12, 13⟩) := by
  rw [← rd_same sampleB (sameTs_rev h)]
  exact sample_read
theorem sample_lay {tys : List Tm.Ty} (h : Tm.SameTs Tm.boxTy tys) : layRead tys wBox sampleB = some sampleNd := by
  unfold layRead
  rw [sample_tys h]
  rfl
theorem sample_back {tys : List Tm.Ty} (h : Tm.SameTs Tm.boxTy tys) (hF : ∀ t ∈ tys, Tm.FineT t) : oneW (wrS tys.reverse) (rootH wBox) sampleNd = some sampleB :=
  lay_back (fun t ht => hF t (List.mem_reverse.1 ht)) (sample_tys h) rfl
theorem sample_ok : sampleNd.ok ∧ sampleNd.tot ≤ 1000000 := by
  refine ⟨?_, by decide⟩
  unfold Nd.ok sampleNd sampleKids
  simp [Nds.ok, Ex.InR]
end Ly
set_option maxRecDepth 100000 in
theorem sample_any (w : World) : Calls Tryz.prog 23 #[] w fun e w' => e = .returned (.string (bstr sampleB)) ∧ w = w' := by
  go_enter Tryz.func23, Tryz.ntmps23
  go_wp2_with fail
  go_ret
  exact ⟨rfl, rfl⟩
set_option maxRecDepth 100000 in
set_option maxHeartbeats 4000000 in
theorem laidOut_any (w : World) (hB : Base w) : Calls Tryz.prog 7 #[] w fun e w' => e = .returned (.bool true) ∧ Below w.heap.size w w' := by
  have HBX := Lib.hid (boxed_any w hB)
  clear hB
  go_enter Tryz.func7, Tryz.ntmps7
  go_wp2_with fail
  refine HBX.out.mono ?_
  rintro e w1 ⟨hb1, tys, a, cap, vs, hsame, hm, rfl⟩
  have hbl : (Tm.prTs Tm.boxTy).length ≤ 3000 := by rw [Tm.box_len]; omega
  obtain ⟨f1, f2, _, f4⟩ := hm.fine hbl
  have hchk : Tm.chk [] tys = none := by rw [Tm.chk_same hsame Tm.box_fine]; exact Tm.box_chk
  have hlen : tys.length = 2 := by
    have : ∀ {l m : List Tm.Ty}, Tm.SameTs l m → l.length = m.length := by
      intro l m h
      induction h with
      | nil => rfl
      | cons _ _ ih => simp [ih]
    exact (this hsame).symm
  have hF : ∀ t ∈ tys, Tm.FineT t ∧ Tm.Its.sz t.items ≤ 100000 := fun t ht => ⟨(f2 t ht).1, (f2 t ht).2.2⟩
  have hRD := LRead_any tys wBox sampleB w1 w.heap.size cap w.heap.size a vs hm.own hm.enc hF (by omega) (chk_chain hchk) (by decide) (by decide)
  rw [sample_lay hsame, hlen] at hRD
  unfold ReadOut at hRD
  have HRD := Lib.hid hRD
  have HM := Lib.hid hm; have HB1 := Lib.hid hb1; have HF := Lib.hid hF; have HCH := Lib.hid (chk_chain hchk); have HLEN := Lib.hid hlen; have HWR := Lib.hid (sample_back hsame f1)
  clear hRD hm hb1 hF hchk hlen f1 f2 f4 hsame hbl HBX
  go_wp2_with fail
  refine (sample_any _).mono ?_
  rintro e w9 ⟨rfl, rfl⟩
  go_wp2_with fail
  refine HRD.out.mono ?_
  rintro e w2 ⟨hb2, v, bl, rfl, hnd, hnodup⟩
  obtain ⟨g0, c0, hv⟩ := hnd.cells
  have hv2 : v = .agg #[.string (bstr wBox), .int .i64 3, .int .i64 0, .int .i64 12, .int .i64 0, .string (bstr []), .slice g0 5 c0] := hv
  subst hv2
  have HND := Lib.hid hnd
  have HB2 := Lib.hid hb2
  clear hb2 hnd hnodup hv HRD
  have hbx : RowAt (w2.alloc (.cells #[.string { data := #[] }, .int .i64 0, .int .i64 0, .int .i64 0, .int .i64 0, .string { data := #[] }, .slice none 0 0] 28)) w2.heap.size 0 28 [.string { data := #[] }, .int .i64 0, .int .i64 0, .int .i64 0, .int .i64 0, .string { data := #[] }, .slice none 0 0] := RowAt.new w2 28 #[.string { data := #[] }, .int .i64 0, .int .i64 0, .int .i64 0, .int .i64 0, .string { data := #[] }, .slice none 0 0]
  have y0 := hbx.cell0 0 (by simp); have z0 := hbx.frozen0 0 (by simp)
  have y1 := hbx.cell0 1 (by simp); have z1 := hbx.frozen0 1 (by simp)
  have y2 := hbx.cell0 2 (by simp); have z2 := hbx.frozen0 2 (by simp)
  have y3 := hbx.cell0 3 (by simp); have z3 := hbx.frozen0 3 (by simp)
  have y4 := hbx.cell0 4 (by simp); have z4 := hbx.frozen0 4 (by simp)
  have y5 := hbx.cell0 5 (by simp); have z5 := hbx.frozen0 5 (by simp)
  have y6 := hbx.cell0 6 (by simp); have z6 := hbx.frozen0 6 (by simp)
  simp only [List.getElem_cons_zero, List.getElem_cons_succ] at y0 y1 y2 y3 y4 y5 y6
  obtain ⟨V, hV⟩ : ∃ V, V = w2.alloc (.cells #[.string (bstr wBox), .int .i64 3, .int .i64 0, .int .i64 12, .int .i64 0, .string (bstr []), .slice g0 5 c0] 28) := ⟨_, rfl⟩
  have hbV : Below w2.heap.size w2 V := by rw [hV]; exact (Below.refl _ _).alloc (Nat.le_refl _) _
  have hrV : RowAt V w2.heap.size 0 28 [.string (bstr wBox), .int .i64 3, .int .i64 0, .int .i64 12, .int .i64 0, .string (bstr []), .slice g0 5 c0] := by rw [hV]; exact RowAt.new w2 _ _
  have hndV := HND.out.keep (w' := V) (fun b hb => hbV.block b (HND.out.mem b hb).2)
  have hmV := (HM.out.up HB2.out).up hbV
  have hWR := LWrite_any tys wBox sampleB sampleNd V w.heap.size cap w.heap.size _ a vs _ bl hmV.own hmV.enc HF.out (by rw [HLEN.out]; decide) HCH.out (by decide) hndV sample_ok.1 sample_ok.2 HWR.out
  rw [HLEN.out] at hWR
  have HWC := Lib.hid hWR
  have r0 := hrV.cell0 0 (by simp); have r1 := hrV.cell0 1 (by simp); have r2 := hrV.cell0 2 (by simp); have r3 := hrV.cell0 3 (by simp); have r4 := hrV.cell0 4 (by simp); have r5 := hrV.cell0 5 (by simp); have r6 := hrV.cell0 6 (by simp)
  simp only [List.getElem_cons_zero, List.getElem_cons_succ] at r0 r1 r2 r3 r4 r5 r6
  rw [hV] at r0 r1 r2 r3 r4 r5 r6
  have HRV := Lib.hid hrV; have HNV := Lib.hid hndV; have HBV := Lib.hid (And.intro HB2.out hbV); have HV := Lib.hid hV
  clear hbx hV hbV hrV hndV hmV hWR
  go_wp2_with fail
  rw [← HV.out]
  refine HWC.out.mono ?_
  rintro e w3 ⟨hb3, rfl⟩
  clear y0 y1 y2 y3 y4 y5 y6 z0 z1 z2 z3 z4 z5 z6 r0 r1 r2 r3 r4 r5 r6
  have hbx3 := HRV.out.below hb3 HRV.out.lt
  have hnd3 := HNV.out.keep (w' := w3) (fun b hb => hb3.block b (HNV.out.mem b hb).2)
  have k6 := hbx3.cell0 6 (by simp)
  simp only [List.getElem_cons_zero, List.getElem_cons_succ] at k6
  have HFB := Lib.hid (show Below w.heap.size w w3 from (HB1.out.trans (HBV.out.1.mono HB1.out.size)).trans ((HBV.out.2.trans (hb3.mono HBV.out.2.size)).mono (Nat.le_trans HB1.out.size HBV.out.1.size)))
  clear hb3 hbx3
  obtain ⟨ga, cp, bs, b1, hv, _, ho, he⟩ := hnd3
  have hs1 : Value.slice g0 5 c0 = Value.slice ga 5 cp := by
    have h1 := congrArg Value.cells hv
    have h2 := congrArg (fun A : Array Value => A.toList.getD 6 undef) h1
    exact h2
  injection hs1 with hs2 _ hs3
  subst hs2 hs3
  obtain ⟨x, rfl⟩ : ∃ x, g0 = some x := by
    cases g0 with
    | none => have := ho.of_none.1; exact absurd this (by decide)
    | some x => exact ⟨x, rfl⟩
  obtain ⟨gb, rfl⟩ : ∃ gb, x = ⟨gb, 0, none⟩ := ⟨x.block, ho.row.1⟩
  have ho5 : Owns w3 w1.heap.size 28 7 (some ⟨gb, 0, none⟩) sampleKids.len c0 bs := ho
  obtain ⟨q1, p1, _, _, m1, _, _⟩ := EncN.nd (i := 1) (d := ⟨[109, 97, 110, 121], 1, 2, 1, 2, [], .nil⟩) (r := sampleKids.drop 2) ho5 he rfl
  obtain ⟨q2, p2, bs2, b2, m2, o2, e2⟩ := EncN.nd (i := 2) (d := ⟨[108], 9, 3, 4, 0, [], (.cons [108] 3 3 3 0 [] (.cons [110] 1 3 1 2 [] .nil (.cons [115] 2 4 2 0 [104, 105] .nil .nil)) (.cons [108] 3 6 1 0 [] (.cons [110] 1 6 1 0 [] .nil (.cons [115] 2 7 0 0 [] .nil .nil)) .nil))⟩) (r := sampleKids.drop 3) ho5 he rfl
  obtain ⟨q3, p3, _, _, m3, _, _⟩ := EncN.nd (i := 3) (d := ⟨[], 4, 7, 1, 1, [], (.cons [109, 111, 114, 101] 1 7 1 7 [] .nil .nil)⟩) (r := sampleKids.drop 4) ho5 he rfl
  obtain ⟨q4, p4, _, _, m4, _, _⟩ := EncN.nd (i := 4) (d := ⟨[115, 117, 109], 1, 8, 4, 0, [], .nil⟩) (r := .nil) ho5 he rfl
  obtain ⟨x2, rfl⟩ : ∃ x, q2 = some x := by
    cases q2 with
    | none => have := o2.of_none.1; exact absurd this (by decide)
    | some x => exact ⟨x, rfl⟩
  obtain ⟨gc, rfl⟩ : ∃ gb, x2 = ⟨gb, 0, none⟩ := ⟨x2.block, o2.row.1⟩
  obtain ⟨q5, p5, bs5, b5, m5, o5, e5⟩ := EncN.nd (i := 0) (d := ⟨[108], 3, 3, 3, 0, [], (.cons [110] 1 3 1 2 [] .nil (.cons [115] 2 4 2 0 [104, 105] .nil .nil))⟩) (r := (.cons [108] 3 6 1 0 [] (.cons [110] 1 6 1 0 [] .nil (.cons [115] 2 7 0 0 [] .nil .nil)) .nil)) o2 e2 rfl
  obtain ⟨x5, rfl⟩ : ∃ x, q5 = some x := by
    cases q5 with
    | none => have := o5.of_none.1; exact absurd this (by decide)
    | some x => exact ⟨x, rfl⟩
  obtain ⟨gd, rfl⟩ : ∃ gb, x5 = ⟨gb, 0, none⟩ := ⟨x5.block, o5.row.1⟩
  obtain ⟨q6, p6, _, _, m6, _, _⟩ := EncN.nd (i := 1) (d := ⟨[115], 2, 4, 2, 0, [104, 105], .nil⟩) (r := .nil) o5 e5 rfl
  have l1 := m1.cell 4 (by simp [ndCells]); have l2 := m2.cell 6 (by simp [ndCells]); have l3 := m3.cell 4 (by simp [ndCells]); have l4 := m4.cell 3 (by simp [ndCells]); have l5 := m5.cell 6 (by simp [ndCells]); have l6 := m6.cell 5 (by simp [ndCells])
  simp only [ndCells, List.getElem_cons_zero, List.getElem_cons_succ, Nat.reduceMul, Nat.reduceAdd] at l1 l2 l3 l4 l5 l6
  have l2' : w3.cell? ⟨gb, 20, none⟩ = some (.slice (some ⟨gc, 0, none⟩) 2 p2) := l2
  have l5' : w3.cell? ⟨gc, 6, none⟩ = some (.slice (some ⟨gd, 0, none⟩) 2 p5) := l5
  have u0 : 5 ≤ c0 := own_cap ho5
  have u2 : 2 ≤ p2 := own_cap o2
  have u5 : 2 ≤ p5 := own_cap o5
  clear hv ho he ho5 m1 m2 m3 m4 m5 m6 o2 e2 o5 e5 l2 l5 HNV HND HRV
  go_wp2_with fail
  refine (sample_any _).mono ?_
  rintro e w9 ⟨rfl, rfl⟩
  go_wp2_with fail
  go_ret
  exact ⟨rfl, HFB.out⟩
end Go.Proofs.YtlomecfhobehnaaGreatDoor
end
