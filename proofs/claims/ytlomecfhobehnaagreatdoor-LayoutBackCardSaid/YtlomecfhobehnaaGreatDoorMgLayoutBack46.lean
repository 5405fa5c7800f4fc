/- layout's writer: items; any structs. -/
import Derived.Test.YtlomecfhobehnaaGreatDoorMgLayoutBack45
section
/- layout's writer: part. -/
namespace Go.Proofs.YtlomecfhobehnaaGreatDoor
open Go Go.RowKit
set_option linter.unusedVariables false
set_option linter.unusedSimpArgs false
open Rd
open Ly
namespace Ly
theorem EncN.at_ {w : World} {B : Nat} : ∀ (i : Nat) (l : Nds) (bl : List Nat) (vs : List Value), EncN w B l bl vs → ∃ us b2, EncN w B (l.drop i) b2 us ∧ us = vs.drop (i * 7)
  | 0, l, bl, vs, h => ⟨vs, bl, by cases l <;> exact h, by simp⟩
  | i + 1, .nil, bl, vs, h => ⟨[], [], ⟨rfl, rfl⟩, by rw [h.1]; simp⟩
  | i + 1, .cons nm kd a sz v tx ks r, bl, vs, h => by
    obtain ⟨ga, cap, bs, us, b1, b2, rfl, h1, h3, rfl, h5⟩ := h
    obtain ⟨ys, b3, g1, g2⟩ := EncN.at_ i r b2 us h5
    refine ⟨ys, b3, g1, ?_⟩
    rw [g2, show (i + 1) * 7 = (ndCells nm kd a sz v tx (.slice ga ks.len cap)).length + i * 7 by show _ = 7 + i * 7; omega, Tm.drop_app]
/-- a node in the row of all -/
theorem EncN.nd {w : World} {B i cap : Nat} {l r : Nds} {bl : List Nat} {vs : List Value} {x : Addr} {d : Nd} (ho : Owns w B 28 7 (some x) l.len cap vs) (he : EncN w B l bl vs) (hd : l.drop i = d.put r) :
    ∃ ga cap2 bs b1, RowAt w x.block (i * 7) 28 (ndCells d.name d.kind d.at_ d.size d.val d.text (.slice ga d.kids.len cap2)) ∧ Owns w B 28 7 ga d.kids.len cap2 bs ∧ EncN w B d.kids b1 bs := by
  obtain ⟨us, b2, h1, h2⟩ := EncN.at_ i l bl vs he
  rw [hd] at h1
  obtain ⟨ga, cap2, bs, ys, b3, b4, _, g1, g2, g3, _⟩ := h1
  refine ⟨ga, cap2, bs, b3, ?_, g1, g2⟩
  have := ho.row.2.2.2.2.part (i * 7) 7
  rw [← h2, g3, Nat.zero_add] at this
  exact this
end Ly
/-- the contract of one -/
def OneWr (A : List Tm.Ty) (W : Wri) (h : Tm.Hd) : Prop := ∀ (U w : World) (rb fb B gcap g o gn on : Nat) (cv : Value) (gk : Option Addr) (vs : List Value) (b1 : List Nat) (d : Nd) (u : Tm.Wd), Below U.heap.size U w → FormM U w rb fb A → RowAt w g o 70 (Tm.hdCells h cv) →
  RowAt w gn on 28 (ndCells d.name d.kind d.at_ d.size d.val d.text (.slice gk d.kids.len gcap)) → Owns w B 28 7 gk d.kids.len gcap vs → EncN w B d.kids b1 vs → d.ok → d.tot ≤ 1000000 → oneW W h d = some u →
  Calls Tryz.prog 33 #[.map (some fb), .pointer (some ⟨g, o, none⟩), .pointer (some ⟨gn, on, none⟩)] w (WriteOut w u)
theorem one_wr (A : List Tm.Ty) (W : Wri) (h : Tm.Hd) (hf : Tm.FineH h) (hst : ∀ t, h.k = .struct t → SubW A W t) : OneWr A W h := by
  intro U w rb fb B gcap g o gn on cv gk vs b1 d u hU hfm hr hn hkO hkE hok htot ho
  cases hk : h.k with
  | scalar wd => exact onew_scalar _ _ cv gn on g o W h wd d u w hk (by have := hf.1; rw [hk] at this; exact this) hok.1 ho hr hn
  | bytes => exact onew_bytes _ _ cv gn on g o W h d u w hk ho hr hn
  | struct t =>
    obtain ⟨ty, h1, h2, h3, W', h4, h5⟩ := hst t hk
    rw [← h2] at hk
    exact onew_struct A W W' ty h1 h4 h5 h3 cv gn on g o h d u U w rb fb B gcap gk vs b1 hU hfm hk ho hr hn hok.2 (by unfold Nd.tot at htot; omega) hkO hkE
theorem partW_one {W : Wri} {h : Tm.Hd} {d : Nd} {u : Tm.Wd} (hm : Tm.manyB h = false) (ho : partW W h d = some u) : oneW W h d = some u := by
  unfold partW at ho
  rw [← many_eqB, hm, if_neg (by decide)] at ho
  exact ho
theorem partW_many {W : Wri} {h : Tm.Hd} {d : Nd} {u : Tm.Wd} (hm : Tm.manyB h = true) (ho : partW W h d = some u) : d.name = h.name ∧ d.kind = 9 ∧ repW (oneW W h) d.kids = some u := by
  unfold partW at ho
  rw [← many_eqB, hm, if_pos rfl] at ho
  split at ho
  · cases ho
  · rename_i hno
    rw [not_or] at hno
    exact ⟨Classical.not_not.1 hno.1, Classical.not_not.1 hno.2, ho⟩
theorem rep_put {f : Nd → Option Tm.Wd} {d : Nd} {r : Nds} {u : Tm.Wd} (h : repW f (d.put r) = some u) : ∃ a b, f d = some a ∧ repW f r = some b ∧ u = a ++ b := by
  have h2 : (f d).bind (fun u => (repW f r).map (u ++ ·)) = some u := h
  cases h3 : f d with
  | none => rw [h3] at h2; cases h2
  | some a =>
    rw [h3] at h2
    cases h4 : repW f r with
    | none => rw [h4] at h2; cases h2
    | some b => rw [h4] at h2; injection h2 with h2; exact ⟨a, b, rfl, rfl, h2.symm⟩
set_option maxRecDepth 100000 in
set_option maxHeartbeats 1000000 in
theorem part_one (A : List Tm.Ty) (W : Wri) (h : Tm.Hd) (hO : OneWr A W h) (hmb : Tm.manyB h = false) (U w : World) (rb fb B gcap g o gn on : Nat) (cv : Value) (gk : Option Addr) (vs : List Value) (b1 : List Nat) (d : Nd) (u : Tm.Wd) (hU : Below U.heap.size U w) (hfm : FormM U w rb fb A) (hr : RowAt w g o 70 (Tm.hdCells h cv))
    (hn : RowAt w gn on 28 (ndCells d.name d.kind d.at_ d.size d.val d.text (.slice gk d.kids.len gcap))) (hkO : Owns w B 28 7 gk d.kids.len gcap vs) (hkE : EncN w B d.kids b1 vs) (hok : d.ok) (htot : d.tot ≤ 1000000) (ho : partW W h d = some u) :
    Calls Tryz.prog 96 #[.map (some fb), .pointer (some ⟨g, o, none⟩), .pointer (some ⟨gn, on, none⟩)] w (WriteOut w u) := by
  have HC := Lib.hid (hO U w rb fb B gcap g o gn on cv gk vs b1 d u hU hfm hr hn hkO hkE hok htot (partW_one hmb ho))
  have k7 := hr.cell 7 (by simp [Tm.hdCells_len])
  simp only [Tm.hdCells, List.getElem_cons_zero, List.getElem_cons_succ, Nat.add_zero, hmb] at k7
  clear hO hU hfm hr hn hkO hkE hok htot ho hmb
  go_enter Tryz.func96, Tryz.ntmps96
  go_wp2_with fail
  refine HC.out.mono ?_
  rintro e w1 ⟨hb, rfl⟩
  have HB := Lib.hid hb
  clear hb
  go_wp2_with fail
  go_ret
  exact ⟨HB.out, rfl⟩
theorem own_max {w : World} {B n cap : Nat} {a : Option Addr} {xs : List Value} {size : Nat} {e : TypeId} (h : Owns w B e size a n cap xs) : n ≤ maxLen := by
  cases a with
  | none => have := h.of_none.1; omega
  | some x => exact Nat.le_trans h.row.2.2.1 h.row.2.2.2.1
theorem man_wrap2 {i n : Nat} (h : i < n) (hn : n ≤ maxLen) : wrap64 ((i : Int) + 1) = ((i + 1 : Nat) : Int) := by
  have : n ≤ 9223372036854775807 := hn
  exact (IntWalk.wrap64_in _ ⟨by omega, by omega⟩).trans (by omega)
theorem str_small {a b : Tm.Wd} (h : a.length + b.length ≤ 1000000) : ¬ (9223372036854775807 < (bstr a).size + (bstr b).size) := by rw [bstr_size, bstr_size]; omega
set_option maxRecDepth 100000 in
set_option maxHeartbeats 2000000 in
theorem part_many (A : List Tm.Ty) (W : Wri) (hWl : WriLe W) (h : Tm.Hd) (hO : OneWr A W h) (hmb : Tm.manyB h = true) (U w : World) (rb fb B gcap g o gn on : Nat) (cv : Value) (gk : Option Addr) (vs : List Value) (b1 : List Nat) (d : Nd) (u : Tm.Wd) (hU : Below U.heap.size U w) (hfm : FormM U w rb fb A) (hr : RowAt w g o 70 (Tm.hdCells h cv))
    (hn : RowAt w gn on 28 (ndCells d.name d.kind d.at_ d.size d.val d.text (.slice gk d.kids.len gcap))) (hkO : Owns w B 28 7 gk d.kids.len gcap vs) (hkE : EncN w B d.kids b1 vs) (hok : d.ok) (htot : d.tot ≤ 1000000) (ho : partW W h d = some u) :
    Calls Tryz.prog 96 #[.map (some fb), .pointer (some ⟨g, o, none⟩), .pointer (some ⟨gn, on, none⟩)] w (WriteOut w u) := by
  obtain ⟨hnm, hkd, hrep⟩ := partW_many hmb ho
  have k7 := hr.cell 7 (by simp [Tm.hdCells_len]); have k2 := hr.cell 2 (by simp [Tm.hdCells_len])
  simp only [Tm.hdCells, List.getElem_cons_zero, List.getElem_cons_succ, Nat.add_zero, hmb] at k7 k2
  have n0 := hn.cell 0 (by simp [ndCells]); have n1 := hn.cell 1 (by simp [ndCells])
  simp only [ndCells, List.getElem_cons_zero, List.getElem_cons_succ, Nat.add_zero] at n0 n1
  rw [hnm] at n0
  rw [hkd] at n1
  have hkt : d.kids.tot ≤ 1000000 := by unfold Nd.tot at htot; omega
  have hul : u.length ≤ d.kids.tot := repW_le (fun d u h => oneW_le hWl h) _ _ hrep
  have hcap : d.kids.len ≤ gcap := own_cap hkO
  obtain ⟨ks, hks⟩ : ∃ ks, ks = d.kids := ⟨_, rfl⟩
  have hok2 := hok.2
  rw [← hks] at hn hkO hkE hrep hkt hul hcap hok2
  obtain ⟨nk, hnk⟩ : ∃ nk, nk = ks.len := ⟨_, rfl⟩
  rw [← hnk] at hn hkO hcap
  have HNK := Lib.hid hnk
  have HR := Lib.hid hr; have HN := Lib.hid hn; have HO := Lib.hid hO; have HU := Lib.hid hU; have HFM := Lib.hid hfm; have HKO := Lib.hid hkO; have HKE := Lib.hid hkE; have HREP := Lib.hid hrep; have HKT := Lib.hid hkt; have HOK := Lib.hid hok2; have HUL := Lib.hid hul
  have HCAP := Lib.hid (show nk ≤ maxLen from own_max hkO)
  clear hr hn hO hU hfm hkO hkE hok htot ho hmb hnm hkd hrep hks hnk hok2 hul
  go_enter Tryz.func96, Tryz.ntmps96
  go_wp2_with fail
  go_still_tail 16, (by kernel_rfl)
  change wpList _ _ _ _ _ w.drew
  go_wp2_with fail
  refine (refuse_no _).mono ?_
  rintro e w1 ⟨rfl, rfl⟩
  clear n0 n1 k2 k7
  obtain ⟨V, hV⟩ : ∃ V, V = w.drew := ⟨_, rfl⟩
  rw [← hV]
  have hbV : Below w.heap.size w V := by rw [hV]; exact (Below.refl _ _).drew
  have hnV := HN.out.below hbV HN.out.lt
  have n6 := hnV.cell 6 (by simp [ndCells])
  simp only [ndCells, List.getElem_cons_zero, List.getElem_cons_succ, Nat.add_zero] at n6
  have HBV := Lib.hid hbV
  clear hV hbV hnV
  go_wp2_with fail
  go_loopw [7, 40] (fun v7 v40 wr => ∃ (i : Nat) (acc : Tm.Wd), v7 = .string (bstr acc) ∧ v40 = .int .i64 (i : Nat) ∧ i ≤ nk ∧ Hid (Below V.heap.size V wr) ∧ Hid (∃ rest, repW (oneW W h) (ks.drop i) = some rest ∧ u = acc ++ rest)) (fun _ v40 _ => nk - (intOf v40).toNat)
  case atStart => exact ⟨0, [], rfl, rfl, Nat.zero_le _, Lib.hid (Below.refl _ _), Lib.hid ⟨u, by rw [show ks.drop 0 = ks by cases ks <;> rfl]; exact HREP.out, rfl⟩⟩
  case round =>
    obtain ⟨i, acc, rfl, rfl, hi, HB, HQ⟩ := hrel
    by_cases hin : i < nk
    · have q1 : decide ((i : Int) < (nk : Int)) = true := decide_eq_true (by omega)
      have q2 : decide (i < nk) = true := decide_eq_true hin
      have hii : (i : Int) < (nk : Int) := by omega
      have HLT := Lib.hid hin
      obtain ⟨x, rfl⟩ : ∃ x, gk = some x := by
        cases gk with
        | none => have := HKO.out.of_none.1; omega
        | some x => exact ⟨x, rfl⟩
      obtain ⟨gb, rfl⟩ : ∃ gb, x = ⟨gb, 0, none⟩ := ⟨x.block, HKO.out.row.1⟩
      obtain ⟨d2, r2, hd1, hd2⟩ := ks.drop_lt i (by rw [← HNK.out]; exact hin)
      have hko := HKO.out
      rw [HNK.out] at hko
      obtain ⟨g3, c3, bs3, b3, e1, e2, e3⟩ := EncN.nd hko HKE.out hd1
      have hbw : Below w.heap.size w wr := HBV.out.trans (HB.out.mono HBV.out.size)
      obtain ⟨rest, hr1, hr2⟩ := HQ.out
      rw [hd1] at hr1
      obtain ⟨a2, b2, f1, f2, f3⟩ := rep_put hr1
      have ht2 : d2.tot ≤ ks.tot := by have := ks.drop_tot i; rw [hd1, put_tot] at this; omega
      have hok2 : d2.ok := by have := ks.drop_ok i HOK.out; rw [hd1] at this; exact (put_ok this).1
      have HC := Lib.hid (HO.out U wr rb fb B c3 g o gb (i * 7) cv g3 bs3 b3 d2 a2 (HU.out.trans (hbw.mono HU.out.size)) (HFM.out.keep (hbw.block _ HFM.out.lt)) (HR.out.below hbw HR.out.lt) (e1.below hbw e1.lt) (e2.below hbw (Nat.le_refl _)) (e3.keep _ _ _ (fun b hb => hbw.block b (e3.mem _ _ _ b hb).2)) hok2 (by have := HKT.out; omega) f1)
      have HQ2 := Lib.hid (show repW (oneW W h) (ks.drop (i + 1)) = some b2 ∧ u = (acc ++ a2) ++ b2 from ⟨by rw [hd2]; exact f2, by rw [hr2, f3, List.append_assoc]⟩)
      have hlen : (acc ++ a2).length ≤ u.length := by rw [HQ2.out.2]; simp
      have hss := str_small (a := acc) (b := a2) (by rw [← List.length_append]; have := HUL.out; have := HKT.out; omega)
      have n6b := ((HN.out.below hbw HN.out.lt).cell 6 (by simp [ndCells]))
      simp only [ndCells, List.getElem_cons_zero, List.getElem_cons_succ, Nat.add_zero] at n6b
      clear hin hi hd1 hd2 hko e1 e2 e3 hbw hr1 hr2 f1 f2 f3 ht2 hok2 hlen
      go_wp2_with fail
      refine HC.out.mono ?_
      rintro e w5 ⟨hb5, rfl⟩
      have HB5 := Lib.hid hb5
      clear hb5
      go_wp2_with fail
      go_roundw
      case rel => exact ⟨i + 1, acc ++ a2, by first | rfl | rw [bstr_append], by first | rfl | rw [man_wrap2 HLT.out HCAP.out], by have := HLT.out; omega, Lib.hid (HB.out.trans (HB5.out.mono HB.out.size)), Lib.hid ⟨b2, HQ2.out⟩⟩
      case measure => (try rw [man_wrap2 HLT.out HCAP.out]); simp only [intOf]; have := HLT.out; omega
    · have q1 : decide ((i : Int) < (nk : Int)) = false := decide_eq_false (by omega)
      have q2 : decide (i < nk) = false := decide_eq_false hin
      have hEQ : i = nk := by omega
      have HEQ := Lib.hid hEQ
      clear hin hi hEQ
      go_wp2_with fail
      go_ret
      refine ⟨HBV.out.trans (HB.out.mono HBV.out.size), ?_⟩
      obtain ⟨rest, hr1, hr2⟩ := HQ.out
      rw [HEQ.out, HNK.out, ks.drop_len] at hr1
      have : rest = [] := by injection hr1 with h; exact h.symm
      rw [hr2, this, List.append_nil]
      rfl
end Go.Proofs.YtlomecfhobehnaaGreatDoor
end
section
/- layout's writer: items; any structs. -/
namespace Go.Proofs.YtlomecfhobehnaaGreatDoor
open Go Go.RowKit
set_option linter.unusedVariables false
set_option linter.unusedSimpArgs false
open Rd
open Ly
/-- the part of an item, of whichever kind -/
def PartWr (A : List Tm.Ty) (W : Wri) (U : World) (rb fb : Nat) (l : Tm.Its) (ks : Nds) (ga gk : Nat) (w : World) (i : Nat) (u : Tm.Wd) : Prop :=
  Calls Tryz.prog 96 #[.map (some fb), .pointer (some ⟨ga, i * 13, none⟩), .pointer (some ⟨gk, i * 7, none⟩)] w (WriteOut w u)
/-- 'when', a part -/
theorem part_when (A : List Tm.Ty) (W : Wri) (body : Tm.Its) (hI : ItsWr A W body) (cv : Value) (gn on g o ai : Nat) (d : Nd) (u : Tm.Wd) (U w : World) (rb fb B gcap capi : Nat) (gi gk : Option Addr) (bs vs : List Value) (b1 : List Nat)
    (hU : Below U.heap.size U w) (hfm : FormM U w rb fb A) (hnm : d.name = []) (hkd : d.kind = 4) (hu : bodyW W body d.val d.kids = some u) (hoi : Owns U (rb + 1) 70 13 gi body.len capi bs) (hen : Tm.EncI U rb body bs) (hr : RowAt w g o 70 (Tm.whenCells ai cv (.slice gi body.len capi))) (hn : RowAt w gn on 28 (ndCells d.name d.kind d.at_ d.size d.val d.text (.slice gk d.kids.len gcap)))
    (hok : d.kids.ok) (htot : d.kids.tot ≤ 1000000) (hkO : Owns w B 28 7 gk d.kids.len gcap vs) (hkE : EncN w B d.kids b1 vs) :
    Calls Tryz.prog 96 #[.map (some fb), .pointer (some ⟨g, o, none⟩), .pointer (some ⟨gn, on, none⟩)] w (WriteOut w u) := by
  have HC := Lib.hid (onew_when A W body hI cv gn on g o ai d u U w rb fb B gcap capi gi gk bs vs b1 hU hfm hnm hkd hu hoi hen hr hn hok htot hkO hkE)
  have k7 := hr.cell 7 (by simp [Tm.whenCells_len])
  simp only [Tm.whenCells, List.getElem_cons_zero, List.getElem_cons_succ, Nat.add_zero] at k7
  clear hI hU hfm hnm hkd hu hoi hen hr hn hok htot hkO hkE
  go_enter Tryz.func96, Tryz.ntmps96
  go_wp2_with fail
  refine HC.out.mono ?_
  rintro e w1 ⟨hb, rfl⟩
  have HB := Lib.hid hb
  clear hb
  go_wp2_with fail
  go_ret
  exact ⟨HB.out, rfl⟩
theorem its_put {W : Wri} {h : Tm.Hd} {l : Tm.Its} {d : Nd} {r : Nds} {u : Tm.Wd} (ho : itsW W (.cons h l) (d.put r) = some u) : ∃ a b, partW W h d = some a ∧ itsW W l r = some b ∧ u = a ++ b := by
  have h2 : (partW W h d).bind (fun u => (itsW W l r).map (u ++ ·)) = some u := ho
  cases h3 : partW W h d with
  | none => rw [h3] at h2; cases h2
  | some a =>
    rw [h3] at h2
    cases h4 : itsW W l r with
    | none => rw [h4] at h2; cases h2
    | some b => rw [h4] at h2; injection h2 with h2; exact ⟨a, b, rfl, rfl, h2.symm⟩
theorem its_putW {W : Wri} {ai : Nat} {c : Ex.X} {body l : Tm.Its} {d : Nd} {r : Nds} {u : Tm.Wd} (ho : itsW W (.when ai c body l) (d.put r) = some u) : ∃ a b, d.name = [] ∧ d.kind = 4 ∧ bodyW W body d.val d.kids = some a ∧ itsW W l r = some b ∧ u = a ++ b := by
  have h2 : itsW W (.when ai c body l) (.cons d.name d.kind d.at_ d.size d.val d.text d.kids r) = some u := ho
  rw [itsW_when] at h2
  split at h2
  · cases h2
  · rename_i hno
    rw [not_or] at hno
    cases h3 : bodyW W body d.val d.kids with
    | none => rw [h3] at h2; cases h2
    | some a =>
      rw [h3] at h2
      simp only [Option.bind_some] at h2
      cases h4 : itsW W l r with
      | none => rw [h4] at h2; cases h2
      | some b => rw [h4] at h2; injection h2 with h2; exact ⟨a, b, Classical.not_not.1 hno.1, Classical.not_not.1 hno.2, rfl, rfl, h2.symm⟩
theorem its_wrap {i n : Nat} (h : i < n) (hn : n ≤ 100000) : wrap64 ((i : Int) + 1) = ((i + 1 : Nat) : Int) := (IntWalk.wrap64_in _ ⟨by omega, by omega⟩).trans (by omega)
set_option maxRecDepth 100000 in
set_option maxHeartbeats 2000000 in
theorem writems_step (A : List Tm.Ty) (W : Wri) (hWl : WriLe W) (l : Tm.Its) (hF : Tm.FineI l) (hlen0 : l.len ≤ 100000) (hW : ∀ i a c b r, l.drop i = .when a c b r → ItsWr A W b)
    (hSt : ∀ i h r t, l.drop i = .cons h r → h.k = .struct t → SubW A W t) : ItsWr A W l := by
  intro U w rb fb cap gcap B ga gk bs vs ks b1 u hU hfm ho hen hkO hkE hok htot hu
  have hcap : l.len ≤ cap := own_cap ho
  have hgcap : ks.len ≤ gcap := own_cap hkO
  have hll := itsW_len l ks u hu
  have hul := itsW_le hWl l ks u hu
  obtain ⟨n, hn⟩ : ∃ n, n = l.len := ⟨_, rfl⟩
  rw [← hll] at hkO hgcap ⊢
  rw [← hn] at hcap ho hlen0 hkO hgcap ⊢
  have hlt0 : ((n : Int) == (n : Int)) = true := by rw [beq_iff_eq]
  have HN := Lib.hid hn; have HLL := Lib.hid hll
  have HU := Lib.hid hU; have HFM := Lib.hid hfm; have HOI := Lib.hid ho; have HEN := Lib.hid hen; have HKO := Lib.hid hkO; have HKE := Lib.hid hkE; have HOK := Lib.hid hok; have HTOT := Lib.hid htot; have HF := Lib.hid hF; have HW := Lib.hid hW; have HST := Lib.hid hSt; have HUL := Lib.hid hul; have HQ0 := Lib.hid hu
  clear hn hll hU hfm ho hen hkO hkE hok htot hF hW hSt hul hu
  go_enter Tryz.func68, Tryz.ntmps68
  go_wp2_with fail
  refine (refuse_no _).mono ?_
  rintro e w1 ⟨rfl, rfl⟩
  go_wp2_with fail
  go_loopw [7, 17] (fun v7 v17 wr => ∃ (i : Nat) (acc : Tm.Wd), v7 = .string (bstr acc) ∧ v17 = .int .i64 (i : Nat) ∧ i ≤ n ∧ Hid (Below w.heap.size w wr) ∧ Hid (∃ rest, itsW W (l.drop i) (ks.drop i) = some rest ∧ u = acc ++ rest)) (fun _ v17 _ => n - (intOf v17).toNat)
  case atStart => exact ⟨0, [], rfl, rfl, Nat.zero_le _, Lib.hid (Below.refl _ _), Lib.hid ⟨u, by rw [show ks.drop 0 = ks by cases ks <;> rfl, show l.drop 0 = l by cases l <;> rfl]; exact HQ0.out, rfl⟩⟩
  case round =>
    obtain ⟨i, acc, rfl, rfl, hi, HB, HQ⟩ := hrel
    by_cases hin : i < n
    · have q1 : decide ((i : Int) < (n : Int)) = true := decide_eq_true (by omega)
      have q2 : decide (i < n) = true := decide_eq_true hin
      have hii : (i : Int) < (n : Int) := by omega
      have hi0 : (0 : Int) ≤ (i : Int) := by omega
      have HLT := Lib.hid hin
      obtain ⟨x, rfl⟩ : ∃ x, gk = some x := by
        cases gk with
        | none => have := HKO.out.of_none.1; omega
        | some x => exact ⟨x, rfl⟩
      obtain ⟨gb, rfl⟩ : ∃ gb, x = ⟨gb, 0, none⟩ := ⟨x.block, HKO.out.row.1⟩
      obtain ⟨y, rfl⟩ : ∃ y, ga = some y := by
        cases ga with
        | none => have := HOI.out.of_none.1; omega
        | some y => exact ⟨y, rfl⟩
      obtain ⟨gi, rfl⟩ : ∃ gi, y = ⟨gi, 0, none⟩ := ⟨y.block, HOI.out.row.1⟩
      obtain ⟨d2, r2, hd1, hd2⟩ := ks.drop_lt i (by rw [← HLL.out, ← HN.out]; exact hin)
      have hko := HKO.out
      rw [HN.out, HLL.out] at hko
      obtain ⟨g3, c3, bs3, b3, e1, e2, e3⟩ := EncN.nd hko HKE.out hd1
      have hoi := HOI.out
      rw [HN.out] at hoi
      obtain ⟨rest, hr1, hr2⟩ := HQ.out
      rw [hd1] at hr1
      have ht2 : d2.tot ≤ ks.tot := by have := ks.drop_tot i; rw [hd1, put_tot] at this; omega
      have hok2 : d2.ok := by have := ks.drop_ok i HOK.out; rw [hd1] at this; exact (put_ok this).1
      have hfd := Tm.fine_drop i l HF.out
      have hkt := HTOT.out
      have key : ∃ a2 b2, (∀ X, Below w.heap.size w X → Calls Tryz.prog 96 #[.map (some fb), .pointer (some ⟨gi, i * 13, none⟩), .pointer (some ⟨gb, i * 7, none⟩)] X (WriteOut X a2)) ∧ itsW W (l.drop (i + 1)) (ks.drop (i + 1)) = some b2 ∧ rest = a2 ++ b2 := by
        rcases Tm.drop_lt l i (by rw [← HN.out]; exact hin) with ⟨h, r, hdr⟩ | ⟨a, c, bd, r, hdr⟩
        · rw [hdr] at hr1 hfd
          obtain ⟨cv, hcv, hrow, hnx⟩ := Tm.EncI.hd hoi HEN.out hdr
          obtain ⟨a2, b2, f1, f2, f3⟩ := its_put hr1
          refine ⟨a2, b2, fun X hX => ?_, by rw [hnx, hd2]; exact f2, f3⟩
          have hO := one_wr A W h hfd.1 (fun t ht => HST.out i h r t hdr ht)
          have hUX : Below U.heap.size U X := HU.out.trans (hX.mono HU.out.size)
          have hrX := hrow.below hUX hrow.lt
          cases hmb : Tm.manyB h with
          | true => exact part_many A W hWl h hO hmb U X rb fb B c3 gi (i * 13) gb (i * 7) cv g3 bs3 b3 d2 a2 hUX (HFM.out.keep (hX.block _ HFM.out.lt)) hrX (e1.below hX e1.lt) (e2.below hX (Nat.le_refl _)) (e3.keep _ _ _ (fun b hb => hX.block b (e3.mem _ _ _ b hb).2)) hok2 (by omega) f1
          | false => exact part_one A W h hO hmb U X rb fb B c3 gi (i * 13) gb (i * 7) cv g3 bs3 b3 d2 a2 hUX (HFM.out.keep (hX.block _ HFM.out.lt)) hrX (e1.below hX e1.lt) (e2.below hX (Nat.le_refl _)) (e3.keep _ _ _ (fun b hb => hX.block b (e3.mem _ _ _ b hb).2)) hok2 (by omega) f1
        · rw [hdr] at hr1 hfd
          obtain ⟨cb, gc, capc, bsc, hxc, hoc, hec, hrow, hnx⟩ := Tm.EncI.wh hoi HEN.out hdr
          obtain ⟨a2, b2, p1, p2, f1, f2, f3⟩ := its_putW hr1
          refine ⟨a2, b2, fun X hX => ?_, by rw [hnx, hd2]; exact f2, f3⟩
          have hUX : Below U.heap.size U X := HU.out.trans (hX.mono HU.out.size)
          exact part_when A W bd (HW.out i a c bd r hdr) _ gb (i * 7) gi (i * 13) a d2 a2 U X rb fb B c3 capc gc g3 bsc bs3 b3 hUX (HFM.out.keep (hX.block _ HFM.out.lt)) p1 p2 f1 hoc hec (hrow.below hUX hrow.lt) (e1.below hX e1.lt) hok2.2 (by unfold Nd.tot at ht2; omega) (e2.below hX (Nat.le_refl _)) (e3.keep _ _ _ (fun b hb => hX.block b (e3.mem _ _ _ b hb).2))
      obtain ⟨a2, b2, hC, f2, f3⟩ := key
      have HC := Lib.hid (hC wr.drew HB.out.drew)
      have HQ2 := Lib.hid (show itsW W (l.drop (i + 1)) (ks.drop (i + 1)) = some b2 ∧ u = (acc ++ a2) ++ b2 from ⟨f2, by rw [hr2, f3, List.append_assoc]⟩)
      have hlen : (acc ++ a2).length ≤ u.length := by rw [HQ2.out.2]; simp
      have hss := str_small (a := acc) (b := a2) (by rw [← List.length_append]; have := HUL.out; omega)
      have hs2 : ¬ (9223372036854775807 < acc.length + a2.length) := by rw [← List.length_append]; have := HUL.out; omega
      have hs3 : decide (9223372036854775807 < acc.length + a2.length) = false := decide_eq_false hs2
      have HL9 := Lib.hid (show n ≤ 100000 from hlen0)
      clear hin hi hd1 hd2 hko e1 e2 e3 hoi hr1 hr2 f2 f3 ht2 hok2 hlen hC hfd hkt
      go_wp2_with fail
      go_region_held3 (fun _ => True) (trivial)
        (first
          | (go_at_call 96; (refine HC.out.mono ?_); (rintro e w5 ⟨hb5, rfl⟩)))
      all_goals
        have HB5 := Lib.hid (show Below w.heap.size w w5 from HB.out.trans (Below.trans (Below.refl _ _).drew (hb5.mono HB.out.size)))
        clear hb5
        go_wp2_with fail
        go_roundw
        case rel => exact ⟨i + 1, acc ++ a2, by first | rfl | rw [bstr_append], by first | rfl | rw [its_wrap HLT.out HL9.out], by have := HLT.out; omega, HB5, Lib.hid ⟨b2, HQ2.out⟩⟩
        case measure => (try rw [its_wrap HLT.out HL9.out]); simp only [intOf]; have := HLT.out; omega
    · have q1 : decide ((i : Int) < (n : Int)) = false := decide_eq_false (by omega)
      have q2 : decide (i < n) = false := decide_eq_false hin
      have hEQ : i = n := by omega
      have HEQ := Lib.hid hEQ
      clear hin hi hEQ
      go_wp2_with fail
      go_ret
      refine ⟨HB.out, ?_⟩
      obtain ⟨rest, hr1, hr2⟩ := HQ.out
      have e1 : ks.drop i = .nil := by rw [HEQ.out, HN.out, HLL.out]; exact ks.drop_len
      have e2 : l.drop i = .nil := by rw [HEQ.out, HN.out]; exact Tm.drop_len l
      rw [e1, e2] at hr1
      have : rest = [] := by injection hr1 with h; exact h.symm
      rw [hr2, this, List.append_nil]
      rfl
end Go.Proofs.YtlomecfhobehnaaGreatDoor
end
