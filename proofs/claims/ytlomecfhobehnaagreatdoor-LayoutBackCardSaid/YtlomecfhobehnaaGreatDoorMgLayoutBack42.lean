/- layout's reader: items of any structs; structs by their names. -/
import Derived.Test.YtlomecfhobehnaaGreatDoorMgLayoutBack41
import Derived.Test.YtlomecfhobehnaaGreatDoorMgLayoutBack17
import Derived.Test.YtlomecfhobehnaaGreatDoorMgLayoutBack35
section
/- The fact boxed. -/
namespace Go.Proofs.YtlomecfhobehnaaGreatDoor
open Go.RowKit
set_option linter.unusedVariables false
set_option linter.unusedSimpArgs false
open Rd
/-- structs that were read lie in memory -/
structure TysM (w : World) (B : Nat) (s : List UInt8) (tys : List Tm.Ty) (a : Option Addr) (cap : Nat) (vs : List Value) : Prop where
  rd : ReadT s tys
  own : Owns w B 97 3 a tys.length cap vs
  enc : Tm.EncT w B tys vs
  lv : LevelsAt w B
  le : B ≤ w.heap.size
theorem TysM.up {w w' : World} {B : Nat} {s : List UInt8} {tys : List Tm.Ty} {a : Option Addr} {cap : Nat} {vs : List Value} (h : TysM w B s tys a cap vs) (hb : Below w.heap.size w w') : TysM w' B s tys a cap vs :=
  ⟨h.rd, h.own.below hb (Nat.le_refl _), h.enc.grown (below_grown hb (some B)), levels_below h.lv hb h.le, Nat.le_trans h.le hb.size⟩
theorem TysM.fine {w : World} {B : Nat} {s : List UInt8} {tys : List Tm.Ty} {a : Option Addr} {cap : Nat} {vs : List Value} (h : TysM w B s tys a cap vs) (hs : s.length ≤ 3000) : (∀ t ∈ tys, Tm.FineT t) ∧ (∀ t ∈ tys, Tm.FineT t ∧ Tm.FewX t.items ∧ Tm.Its.sz t.items ≤ 100000) ∧ (Tm.prTs tys).length ≤ 64 * s.length ∧ tys.length ≤ 8 := by
  obtain ⟨T, h1, h2⟩ := h.rd
  obtain ⟨_, h4, h5⟩ := toks_lex hs h1
  have h6 := h2.fine h4
  obtain ⟨h7, h8⟩ := Tm.tys_len h2 h4 (by omega)
  have h9 := h2.few
  exact ⟨h6, fun t ht => ⟨h6 t ht, h8 t ht⟩, by omega, by omega⟩
/-- Print of what was read -/
theorem print_read {w : World} {B : Nat} {s : List UInt8} {tys : List Tm.Ty} {a : Option Addr} {cap : Nat} {vs : List Value} (h : TysM w B s tys a cap vs) (hs : s.length ≤ 3000) (hB : Base w) :
    Calls Tryz.prog 47 #[.slice a tys.length cap] w fun e w' => e = .returned (.string (bstr (Tm.prTs tys))) ∧ Below w.heap.size w w' := by
  obtain ⟨h1, _, h3, h4⟩ := h.fine hs
  exact Print_tys tys h1 w B cap B a vs h.own h.enc h.lv h.le (by omega) (by omega)
/-- Check of what was read -/
theorem check_read {w : World} {B : Nat} {s : List UInt8} {tys : List Tm.Ty} {a : Option Addr} {cap : Nat} {vs : List Value} (h : TysM w B s tys a cap vs) (hs : s.length ≤ 3000) :
    Calls Tryz.prog 26 #[.slice a tys.length cap] w (CheckOut w (Tm.chk [] tys)) := by
  obtain ⟨_, h2, _, h4⟩ := h.fine hs
  exact Check_any tys w B cap B a vs h.own h.enc h2 (by omega)
/-- Parse, told so -/
theorem parse_read (s : List UInt8) (w : World) (hs : s.length ≤ 3000) (hB : Base w) : Calls Tryz.prog 25 #[.string (bstr s)] w fun e w' => Below w.heap.size w w' ∧ ((∃ tys a cap vs, TysM w' w.heap.size s tys a cap vs ∧ e = .returned (.tuple #[.slice a (List.length tys) cap, .nilIface])) ∨ ((∀ tys, ¬ ReadT s tys) ∧ ∃ g : Nat, e = .returned (.tuple #[.slice none 0 0, .iface 120 (.pointer (some ⟨g, 0, none⟩))]))) := by
  refine (TP_any s w hs hB).mono ?_
  rintro e w' ⟨h1, ⟨tys, a, cap, vs, h2, h3, h4, h5⟩ | h2⟩
  · exact ⟨h1, .inl ⟨tys, a, cap, vs, ⟨h2, h4, h5, levels_below hB.env.lv h1 (Nat.le_refl _), h1.size⟩, h3⟩⟩
  · exact ⟨h1, .inr h2⟩
set_option maxRecDepth 100000 in
set_option maxHeartbeats 4000000 in
theorem boxed_any (w : World) (hB : Base w) : Calls Tryz.prog 22 #[] w fun e w' => Below w.heap.size w w' ∧ ∃ tys a cap vs, Tm.SameTs Tm.boxTy tys ∧ TysM w' w.heap.size (Tm.prTs Tm.boxTy) tys a cap vs ∧ e = .returned (.tuple #[.slice a 2 cap, .bool true]) := by
  have hbl : (Tm.prTs Tm.boxTy).length ≤ 3000 := by rw [Tm.box_len]; omega
  have hp := parse_read (Tm.prTs Tm.boxTy) w hbl hB
  obtain ⟨T, hT⟩ := Tm.box_lex
  obtain ⟨L, hL1, hL2⟩ := Tm.box_read hT (Tm.prTs Tm.boxTy).length
  have hrd : ReadT (Tm.prTs Tm.boxTy) L := ⟨T, hT, hL2⟩
  have hprL : Tm.prTs L = Tm.prTs Tm.boxTy := (Tm.same_prTs hL1).symm
  have hchk : Tm.chk [] L = none := by rw [Tm.chk_same hL1 Tm.box_fine]; exact Tm.box_chk
  have hlen : L.length = 2 := by
    have : ∀ {l m : List Tm.Ty}, Tm.SameTs l m → l.length = m.length := by
      intro l m h
      induction h with
      | nil => rfl
      | cons _ _ ih => simp [ih]
    exact (this hL1).symm
  have HL1 := Lib.hid hL1; have HRD := Lib.hid hrd; have HLEN := Lib.hid hlen; have HCHK := Lib.hid hchk; have HBL := Lib.hid hbl; have HPR := Lib.hid hprL
  rw [Tm.box_pr] at hp
  have HP := Lib.hid hp
  have HB := Lib.hid hB
  clear hp hB hL1 hL2 hrd hprL hchk hlen hbl hT
  go_enter Tryz.func22, Tryz.ntmps22
  go_wp2_with fail
  refine HP.out.mono ?_
  rintro e w1 ⟨hb1, ⟨tys, a, cap, vs, hm, rfl⟩ | ⟨hno, _⟩⟩
  · have hrd' := hm.rd
    rw [← Tm.box_pr] at hrd' hm
    obtain rfl := hrd'.det HRD.out
    have HM := Lib.hid hm; have HB1 := Lib.hid hb1
    have HCK := Lib.hid (check_read hm HBL.out)
    have h2 := HLEN.out
    clear hm hb1 hrd' HP
    generalize hnn : tys.length = nn at *
    subst h2
    go_wp2_with fail
    refine HCK.out.mono ?_
    intro e w2 hck
    unfold CheckOut at hck
    rw [HCHK.out] at hck
    obtain ⟨hb2, rfl⟩ := hck
    have HM2 := Lib.hid (HM.out.up hb2)
    have HB2 := Lib.hid (HB1.out.trans (hb2.mono HB1.out.size))
    have hpr := print_read HM2.out HBL.out (HB.out.up HB2.out)
    rw [hnn, HPR.out] at hpr
    obtain ⟨P, hP⟩ : ∃ P, P = Tm.prTs Tm.boxTy := ⟨_, rfl⟩
    rw [← hP] at hpr
    have q1 : (P == [115, 116, 114, 117, 99, 116, 32, 112, 97, 105, 114, 32, 123, 10, 32, 32, 117, 56, 32, 110, 32, 61, 32, 115, 105, 122, 101, 32, 115, 59, 10, 32, 32, 98, 121, 116, 101, 115, 32, 115, 91, 110, 93, 59, 10, 125, 10, 115, 116, 114, 117, 99, 116, 32, 98, 111, 120, 32, 123, 10, 32, 32, 117, 49, 54, 98, 101, 32, 107, 105, 110, 100, 59, 10, 32, 32, 117, 56, 32, 109, 97, 110, 121, 32, 61, 32, 99, 111, 117, 110, 116, 32, 108, 59, 10, 32, 32, 112, 97, 105, 114, 32, 108, 91, 109, 97, 110, 121, 93, 59, 10, 32, 32, 119, 104, 101, 110, 32, 107, 105, 110, 100, 32, 61, 61, 32, 49, 32, 123, 10, 32, 32, 32, 32, 105, 56, 32, 109, 111, 114, 101, 59, 10, 32, 32, 125, 10, 32, 32, 117, 51, 50, 108, 101, 32, 115, 117, 109, 32, 61, 32, 99, 104, 101, 99, 107, 32, 107, 105, 110, 100, 32, 108, 59, 10, 125, 10]) = true := by rw [beq_iff_eq, hP, Tm.box_pr]
    have HPP := Lib.hid hpr
    clear hpr hb2 hP HCK
    go_wp2_with fail
    refine HPP.out.mono ?_
    rintro e w3 ⟨rfl, hb3⟩
    have HM3 := Lib.hid (HM2.out.up hb3)
    have HB3 := Lib.hid (HB2.out.trans (hb3.mono HB2.out.size))
    clear hb3
    go_wp2_with fail
    go_ret2
    exact ⟨HB3.out, tys, a, cap, vs, HL1.out, HM3.out, rfl⟩
  · rw [← Tm.box_pr] at hno
    exact absurd HRD.out (hno _)
end Go.Proofs.YtlomecfhobehnaaGreatDoor
end
section
/- What is read is written just so, in plain words. -/
namespace Go.Proofs.YtlomecfhobehnaaGreatDoor
set_option linter.unusedVariables false
set_option linter.unusedSimpArgs false
namespace Ly
open Ex (X Names ev)
open Tm
/-! ## a number's bytes -/
theorem num_wid : ∀ p ∈ numWords, (p.2.1 = 1 ∨ p.2.1 = 2 ∨ p.2.1 = 4 ∨ p.2.1 = 8) ∧ (p.2.2.1 = 0 ∨ p.2.2.1 = 1) ∧ (p.2.2.2 = false → p.2.1 ≤ 4) := by decide
theorem wid_cases {w : Wd} (h : (kindOf w).isSome = true) : (widW w = 1 ∨ widW w = 2 ∨ widW w = 4 ∨ widW w = 8) ∧ (ordW w = 0 ∨ ordW w = 1) ∧ (sgdW w = false → widW w ≤ 4) := by
  have h2 := h
  unfold kindOf at h
  rw [Option.isSome_map] at h
  obtain ⟨p, hp⟩ := Option.isSome_iff_exists.1 h
  have h1 := List.mem_of_find?_eq_some hp
  have e : kindOf w = some p.2 := by unfold kindOf; rw [hp]; rfl
  unfold widW ordW sgdW
  rw [e]
  exact num_wid p h1
theorem byteOf_getN (l : List UInt8) (wd o : Nat) : ∀ (m k : Nat), k < m → byteOf (getN l 0 wd o m) k = (l.getD (plc k wd o) 0).toNat
  | 0, k, h => by omega
  | m + 1, k, h => by
    have hx := getN_lt l 0 wd o m
    have hb := (l.getD (0 + plc m wd o) 0).toNat_lt
    have hp : 0 < 256 ^ m := Nat.pow_pos (by decide)
    rw [getN]
    by_cases hk : k < m
    · have ih := byteOf_getN l wd o m k hk
      have e1 : (getN l 0 wd o m + (l.getD (0 + plc m wd o) 0).toNat * 256 ^ m) % 256 ^ m = getN l 0 wd o m := by rw [Nat.add_mul_mod_self_right, Nat.mod_eq_of_lt hx]
      rw [← byteOf_mod _ m k hk, e1]
      exact ih
    · obtain rfl : k = m := by omega
      unfold byteOf
      rw [Nat.add_mul_div_right _ _ hp, Nat.div_eq_of_lt hx, Nat.zero_add, Nat.zero_add, Nat.mod_eq_of_lt (by rw [Nat.zero_add] at hb; omega)]
theorem putB_getN {u : Wd} {wd o : Nat} (h : u.length = wd) : putB (getN u 0 wd o wd) wd o = u := by
  apply List.ext_getElem
  · rw [putB_length, h]
  · intro j h1 h2
    have hj : j < wd := by omega
    have e := byteOf_getN u wd o wd (plc j wd o) (plc_lt hj)
    rw [plc_plc hj, List.getD_eq_getElem?_getD, List.getElem?_eq_getElem h2, Option.getD_some] at e
    simp only [putB, List.getElem_map, List.getElem_range, e]
    exact UInt8.ofNat_toNat
theorem u64N_mod {wd : Nat} (h : wd = 1 ∨ wd = 2 ∨ wd = 4 ∨ wd = 8) (v : Int) : ((u64N v % 256 ^ wd : Nat) : Int) = v % ((256 ^ wd : Nat) : Int) := by
  unfold u64N
  rcases h with rfl | rfl | rfl | rfl <;> (simp only [Nat.reducePow]; omega)
/-- the number of bytes, put, is those bytes -/
theorem val_back {w u : Wd} (hk : (kindOf w).isSome = true) (hu : u.length = widW w) : putW w (valW w u) = u ∧ fitsW w (valW w u) = true := by
  obtain ⟨h1, h2, h3⟩ := wid_cases hk
  have hg := getN_lt u 0 (widW w) (ordW w) (widW w)
  have hp := putB_getN (o := ordW w) hu
  unfold putW fitsW valW
  generalize getN u 0 (widW w) (ordW w) (widW w) = g at *
  generalize ordW w = o at *
  generalize widW w = wd at *
  have hc : unsN (u64N (if sgdW w then sgnI g wd else ((g : Nat) : Int))) wd = g := by
    have hm := u64N_mod h1 (if sgdW w then sgnI g wd else ((g : Nat) : Int))
    have hgm : (g : Int) % ((256 ^ wd : Nat) : Int) = (g : Int) := Int.emod_eq_of_lt (by omega) (by omega)
    have he : (if sgdW w then sgnI g wd else ((g : Nat) : Int)) % ((256 ^ wd : Nat) : Int) = (g : Int) := by
      split
      · unfold sgnI unsN
        rw [Nat.mod_eq_of_lt hg]
        split
        · exact hgm
        · rw [Int.sub_emod_right]; exact hgm
      · exact hgm
    rw [he] at hm
    unfold unsN
    exact Int.ofNat_inj.1 hm
  refine ⟨?_, ?_⟩
  · rw [← putB_mod, show u64N (if sgdW w = true then sgnI g wd else (g : Int)) % 256 ^ wd = g from hc]
    exact hp
  · cases hs : sgdW w with
    | true =>
      rw [hs] at hc
      simp only [if_true] at hc ⊢
      rw [decide_eq_true_eq]
      unfold sgnI
      rw [show unsN (u64N (if unsN g wd < 256 ^ wd / 2 then (unsN g wd : Int) else (unsN g wd : Int) - ((256 ^ wd : Nat) : Int))) wd = g from hc, show unsN g wd = g from Nat.mod_eq_of_lt hg]
    | false =>
      rw [hs] at hc
      simp only [Bool.false_eq_true, if_false] at hc ⊢
      have h8 : 256 ^ wd ≤ 18446744073709551616 := pow256_le (by rcases h1 with rfl | rfl | rfl | rfl <;> omega)
      have e : u64N (g : Int) = g := by unfold u64N; omega
      rw [hc, e]
      simp
/-! ## the tree -/
/-- a reader of structs whose trees are written as what was read -/
def SubOk (s : Wd) (S : Sub) (W : Wri) : Prop := ∀ t st ks st', st.at_ ≤ s.length → S t st = some (ks, st') → Step s st st' ∧ W t ks = some (seg s st.at_ st'.at_)
theorem nod_step {s : Wd} {st st1 : St} (h : nod st = some st1) (ha : st.at_ ≤ s.length) : st1.at_ = st.at_ ∧ st1.at_ ≤ s.length := by
  have := nod_at h
  exact ⟨this, by omega⟩
theorem one_back {s : Wd} {S : Sub} {W : Wri} (hS : SubOk s S W) {N : Names} {h : Hd} (hf : ∀ w, h.k = .scalar w → (kindOf w).isSome = true) {st st' : St} {d : Nd} (ha : st.at_ ≤ s.length) (hr : oneH S s N h st = some (d, st')) : Step s st st' ∧ oneW W h d = some (seg s st.at_ st'.at_) := by
  unfold oneH at hr
  rw [Option.bind_eq_some_iff] at hr
  obtain ⟨st1, h1, h2⟩ := hr
  obtain ⟨e1, l1⟩ := nod_step h1 ha
  unfold oneW
  cases hk : h.k with
  | scalar w =>
    rw [hk] at h2
    simp only [] at h2
    rw [Option.map_eq_some_iff] at h2
    obtain ⟨⟨u, st2⟩, h3, h4⟩ := h2
    cases h4
    obtain ⟨g1, g2, g3⟩ := tak_ok h3 l1
    obtain ⟨g4, g5⟩ := val_back (hf w hk) (u := u) (by rw [g3]; simp)
    rw [e1] at g2
    refine ⟨⟨by rw [← e1]; exact g1.le, g1.len⟩, ?_⟩
    simp only [kNo, ne_eq, not_true_eq_false, or_self, if_false]
    rw [if_pos g5, g4, g2]
  | bytes =>
    rw [hk] at h2
    simp only [] at h2
    rw [Option.bind_eq_some_iff] at h2
    obtain ⟨k, _, h2⟩ := h2
    rw [Option.map_eq_some_iff] at h2
    obtain ⟨⟨u, st2⟩, h3, h4⟩ := h2
    cases h4
    obtain ⟨g1, g2, g3⟩ := tak_ok h3 l1
    rw [e1] at g2
    refine ⟨⟨by rw [← e1]; exact g1.le, g1.len⟩, ?_⟩
    simp only [kNo, ne_eq, not_true_eq_false, or_self, if_false, g2]
  | struct t =>
    rw [hk] at h2
    simp only [] at h2
    rw [Option.map_eq_some_iff] at h2
    obtain ⟨⟨ks, st2⟩, h3, h4⟩ := h2
    cases h4
    obtain ⟨g1, g2⟩ := hS t st1 ks st2 l1 h3
    rw [e1] at g2
    refine ⟨⟨by rw [← e1]; exact g1.le, g1.len⟩, ?_⟩
    simp only [kNo, ne_eq, not_true_eq_false, or_self, if_false, g2]
theorem rep_back {s : Wd} {f : St → Option (Nd × St)} {g : Nd → Option Wd} (hf : ∀ st st' d, st.at_ ≤ s.length → f st = some (d, st') → Step s st st' ∧ g d = some (seg s st.at_ st'.at_)) : ∀ (k : Nat) (st st' : St) (ks : Nds), st.at_ ≤ s.length → rep f k st = some (ks, st') → Step s st st' ∧ repW g ks = some (seg s st.at_ st'.at_)
  | 0, st, st', ks, ha, h => by
    unfold rep at h
    cases h
    exact ⟨⟨Nat.le_refl _, ha⟩, by unfold repW; rw [seg_nil]⟩
  | k + 1, st, st', ks, ha, h => by
    unfold rep at h
    rw [Option.bind_eq_some_iff] at h
    obtain ⟨⟨d, st1⟩, h1, h2⟩ := h
    rw [Option.map_eq_some_iff] at h2
    obtain ⟨⟨r, st2⟩, h3, h4⟩ := h2
    cases h4
    obtain ⟨g1, g2⟩ := hf st st1 d ha h1
    obtain ⟨g3, g4⟩ := rep_back hf k st1 _ r g1.len h3
    refine ⟨⟨Nat.le_trans g1.le g3.le, g3.len⟩, ?_⟩
    unfold Nd.put repW
    simp only [] at g4 ⊢
    rw [g2, g4]
    simp only [Option.bind_some, Option.map_some]
    rw [seg_app s g1.le g3.le]
theorem hd_back {s : Wd} {S : Sub} {W : Wri} (hS : SubOk s S W) {N : Names} {h : Hd} (hf : ∀ w, h.k = .scalar w → (kindOf w).isSome = true) {st st' : St} {d : Nd} (ha : st.at_ ≤ s.length) (hr : hdR S s N h st = some (d, st')) : Step s st st' ∧ partW W h d = some (seg s st.at_ st'.at_) := by
  unfold hdR at hr
  unfold partW
  split at hr
  · rename_i hm
    rw [if_pos hm]
    unfold lstH at hr
    rw [Option.bind_eq_some_iff] at hr
    obtain ⟨st1, h1, h2⟩ := hr
    obtain ⟨e1, l1⟩ := nod_step h1 ha
    rw [Option.bind_eq_some_iff] at h2
    obtain ⟨k, _, h2⟩ := h2
    split at h2
    · cases h2
    · rw [Option.map_eq_some_iff] at h2
      obtain ⟨⟨ks, st2⟩, h3, h4⟩ := h2
      cases h4
      obtain ⟨g1, g2⟩ := rep_back (g := oneW W h) (fun st st' d ha hr => one_back hS hf ha hr) k.toNat st1 st2 ks l1 h3
      rw [e1] at g2
      refine ⟨⟨by rw [← e1]; exact g1.le, g1.len⟩, ?_⟩
      simp only [ne_eq, not_true_eq_false, or_self, if_false, g2]
  · rename_i hm
    rw [if_neg hm]
    exact one_back hS hf ha hr
theorem its_back {s : Wd} {S : Sub} {W : Wri} (hS : SubOk s S W) : ∀ (l : Its), FineI l → ∀ (N N' : Names) (st st' : St) (ks : Nds), st.at_ ≤ s.length → itsR S s l N st = some (ks, N', st') → Step s st st' ∧ itsW W l ks = some (seg s st.at_ st'.at_)
  | .nil, _, N, N', st, st', ks, ha, h => by
    unfold itsR at h
    cases h
    exact ⟨⟨Nat.le_refl _, ha⟩, by unfold itsW; rw [seg_nil]⟩
  | .cons h l, hF, N, N', st, st', ks, ha, hr => by
    unfold itsR at hr
    rw [Option.bind_eq_some_iff] at hr
    obtain ⟨⟨d, st1⟩, h1, h2⟩ := hr
    rw [Option.map_eq_some_iff] at h2
    obtain ⟨⟨r, N2, st2⟩, h3, h4⟩ := h2
    cases h4
    obtain ⟨g1, g2⟩ := hd_back hS (fun w hw => by have := hF.1.1; rw [hw] at this; exact this) ha h1
    obtain ⟨g3, g4⟩ := its_back hS l hF.2 _ _ st1 _ r g1.len h3
    refine ⟨⟨Nat.le_trans g1.le g3.le, g3.len⟩, ?_⟩
    unfold Nd.put itsW
    simp only [] at g4 ⊢
    rw [g2, g4]
    simp only [Option.bind_some, Option.map_some]
    rw [seg_app s g1.le g3.le]
  | .when a c b l, hF, N, N', st, st', ks, ha, hr => by
    unfold itsR at hr
    rw [Option.bind_eq_some_iff] at hr
    obtain ⟨st1, h1, hr⟩ := hr
    obtain ⟨e1, l1⟩ := nod_step h1 ha
    rw [Option.bind_eq_some_iff] at hr
    obtain ⟨v, _, hr⟩ := hr
    rw [Option.bind_eq_some_iff] at hr
    obtain ⟨⟨kb, N1, st2⟩, h2, h3⟩ := hr
    rw [Option.map_eq_some_iff] at h3
    obtain ⟨⟨r, N2, st3⟩, h4, h5⟩ := h3
    cases h5
    by_cases hv : v = 0
    · rw [if_pos hv] at h2
      cases h2
      obtain ⟨g3, g4⟩ := its_back hS l hF.2.2 _ _ st1 _ r l1 h4
      refine ⟨⟨by rw [← e1]; exact g3.le, g3.len⟩, ?_⟩
      unfold itsW
      rw [e1] at g4
      simp only [hv, if_true, ne_eq, not_true_eq_false, or_self, if_false, Option.bind_some, g4, Option.map_some, List.nil_append]
    · rw [if_neg hv] at h2
      obtain ⟨g1, g2⟩ := its_back hS b hF.2.1 _ _ st1 st2 kb l1 h2
      obtain ⟨g3, g4⟩ := its_back hS l hF.2.2 _ _ st2 _ r g1.len h4
      refine ⟨⟨by rw [← e1]; exact Nat.le_trans g1.le g3.le, g3.len⟩, ?_⟩
      unfold itsW
      simp only [hv, if_false, ne_eq, not_true_eq_false, or_self, show ¬ ((1 : Int) = 0) by decide, g2, Option.bind_some, g4, Option.map_some]
      rw [e1, seg_app s (by rw [← e1]; exact g1.le) g3.le]
theorem struct_back (s : Wd) : ∀ (l : List Ty), (∀ t ∈ l, FineT t) → SubOk s (rdS s l) (wrS l)
  | [], _, t, st, ks, st', _, h => by cases h
  | t :: r, hF, nm, st, ks, st', ha, h => by
    have ih := struct_back s r fun u hu => hF u (by simp [hu])
    unfold rdS at h
    unfold wrS
    split at h
    · rename_i hn
      rw [if_pos hn]
      rw [Option.map_eq_some_iff] at h
      obtain ⟨⟨k, N2, st2⟩, h1, h2⟩ := h
      cases h2
      exact its_back ih t.items (hF t (by simp)).2 _ _ st _ _ ha h1
    · rename_i hn
      rw [if_neg hn]
      exact ih nm st ks st' ha h
/-- the item that stands for the whole -/
def rootH (root : Wd) : Hd := ⟨0, .struct root, root, none, .none⟩
/-- WHAT IS READ IS WRITTEN -/
theorem lay_back {s root : Wd} {l : List Ty} (hF : ∀ t ∈ l, FineT t) {d : Nd} {st : St} (h : oneH (rdS s l) s (fun _ => none) (rootH root) ⟨0, 0⟩ = some (d, st)) (hend : st.at_ = s.length) : oneW (wrS l) (rootH root) d = some s := by
  obtain ⟨_, h2⟩ := one_back (struct_back s l hF) (h := rootH root) (fun w hw => by cases hw) (Nat.zero_le _) h
  rw [h2, hend]
  unfold seg
  simp
end Ly
end Go.Proofs.YtlomecfhobehnaaGreatDoor
end
section
/- Structs that fit refer to those ahead of them, in plain words; the facts of the law of layout. -/
namespace Go.Proofs.YtlomecfhobehnaaGreatDoor
set_option linter.unusedVariables false
set_option linter.unusedSimpArgs false
namespace Ly
open Ex (X Names ev)
open Tm
/-- items' structs are among these -/
def RefsI (ts : List Wd) : Its → Prop
  | .nil => True
  | .cons h l => (∀ t, h.k = .struct t → t ∈ ts) ∧ RefsI ts l
  | .when _ _ b l => RefsI ts b ∧ RefsI ts l
theorem chkL_refs {ts : List Wd} : ∀ (l : Its) (ns seen ns' seen' : List Wd), chkL ts l ns seen = .ok ns' seen' → RefsI ts l
  | .nil, _, _, _, _, _ => trivial
  | .cons h l, ns, seen, ns', seen', e => by
    unfold chkL at e
    split at e
    · cases e
    · split at e
      · cases e
      · rename_i hl
        split at e
        · refine ⟨fun t ht => ?_, chkL_refs l _ _ _ _ e⟩
          rw [ht] at hl
          have h2 : (!ts.contains t) ≠ true := hl
          simpa using h2
        · cases e
  | .when a c b l, ns, seen, ns', seen', e => by
    unfold chkL at e
    split at e
    · cases hb : chkL ts b ns seen with
      | bad x => rw [hb] at e; cases e
      | ok n2 s2 =>
        rw [hb] at e
        simp only [] at e
        split at e
        · cases e
        · exact ⟨chkL_refs b _ _ _ _ hb, chkL_refs l _ _ _ _ e⟩
    · cases e
def names (l : List Ty) : List Wd := l.map (·.name)
/-- structs, the last one first: each refers to those behind it alone -/
def RChain : List Ty → Prop
  | [] => True
  | t :: r => t.name ∉ names r ∧ RefsI (names r) t.items ∧ RChain r
theorem chain_rev : ∀ (l m : List Ty), chk (names m) l = none → RChain m → RChain (l.reverse ++ m)
  | [], m, _, h => h
  | t :: l, m, h, hm => by
    unfold chk at h
    split at h
    · cases h
    · rename_i hn
      cases hb : chkL (names m) t.items [] [] with
      | bad x => rw [hb] at h; cases h
      | ok n2 s2 =>
        rw [hb] at h
        simp only [] at h
        split at h
        · cases h
        · rw [List.reverse_cons, List.append_assoc]
          exact chain_rev l (t :: m) h ⟨by simpa using hn, chkL_refs _ _ _ _ _ hb, hm⟩
theorem chk_chain {l : List Ty} (h : chk [] l = none) : RChain l.reverse := by
  have := chain_rev l [] h trivial
  simpa using this
/-- a struct's reader, by its place -/
theorem rdS_skip {s : Wd} {t : Ty} {r : List Ty} {nm : Wd} (h : t.name ≠ nm) (st : St) : rdS s (t :: r) nm st = rdS s r nm st := by
  show (if t.name = nm then _ else _) = _
  rw [if_neg h]
theorem rdS_at {s : Wd} {t : Ty} {r : List Ty} (st : St) : rdS s (t :: r) t.name st = (itsR (rdS s r) s t.items (fun _ => none) st).map fun p => (p.1, p.2.2) := by
  show (if t.name = t.name then _ else _) = _
  rw [if_pos rfl]
theorem names_rev (l : List Ty) (w : Wd) : w ∈ names l.reverse ↔ w ∈ names l := by unfold names; simp
end Ly
end Go.Proofs.YtlomecfhobehnaaGreatDoor
end
section
/- Read and written alike at other places; the box, read. -/
namespace Go.Proofs.YtlomecfhobehnaaGreatDoor
set_option linter.unusedVariables false
set_option linter.unusedSimpArgs false
namespace Ly
open Ex (X Names ev)
open Tm
theorem cnt_same {a b : Option X} (h : SameO a b) (N : Names) : a.bind (ev N) = b.bind (ev N) := by
  cases a <;> cases b
  · rfl
  · exact h.elim
  · exact h.elim
  · exact Ex.Same.ev (N := N) h
theorem cnt_some {a b : Option X} (h : SameO a b) : a.isSome = b.isSome := by
  cases a <;> cases b <;> first | rfl | exact h.elim
theorem many_same {a b : Hd} (h : SameH a b) : manyH a = manyH b := by
  rw [manyH_eq, manyH_eq, h.1, cnt_some h.2.2.1]
theorem single_same {a b : Hd} (h : SameH a b) : single a = single b := by
  rw [single_eq, single_eq, h.1, cnt_some h.2.2.1]
theorem one_same (S : Sub) (s : Wd) (N : Names) {a b : Hd} (h : SameH a b) (st : St) : oneH S s N a st = oneH S s N b st := by
  unfold oneH
  rw [h.1, h.2.1, cnt_same h.2.2.1 N]
theorem hd_same (S : Sub) (s : Wd) (N : Names) {a b : Hd} (h : SameH a b) (st : St) : hdR S s N a st = hdR S s N b st := by
  unfold hdR lstH
  rw [many_same h, one_same S s N h, show oneH S s N a = oneH S s N b from funext (one_same S s N h), h.2.1, cnt_same h.2.2.1 N]
theorem its_same (S : Sub) (s : Wd) {l m : Its} (h : SameI l m) : ∀ (N : Names) (st : St), itsR S s l N st = itsR S s m N st := by
  induction h with
  | nil => intro N st; rfl
  | cons hh _ ih =>
    intro N st
    unfold itsR
    rw [hd_same S s N hh st, single_same hh, hh.2.1]
    congr 1
    funext p
    rw [ih]
  | when hc _ _ ih1 ih2 =>
    intro N st
    unfold itsR
    rw [Ex.Same.ev (N := N) hc]
    congr 1
    funext st1
    congr 1
    funext v
    rw [ih1]
    congr 1
    funext p
    rw [ih2]
theorem rd_same (s : Wd) {l m : List Ty} (h : SameTs l m) : rdS s l = rdS s m := by
  induction h with
  | nil => rfl
  | @cons a b l m hh _ ih =>
    funext nm st
    show (if a.name = nm then _ else _) = (if b.name = nm then _ else _)
    rw [hh.1, ih, its_same _ _ hh.2]
theorem sameTs_app {l m l' m' : List Ty} (h : SameTs l m) (h' : SameTs l' m') : SameTs (l ++ l') (m ++ m') := by
  induction h with
  | nil => exact h'
  | cons a _ ih => exact .cons a ih
theorem sameTs_rev {l m : List Ty} (h : SameTs l m) : SameTs l.reverse m.reverse := by
  induction h with
  | nil => exact .nil
  | cons a _ ih =>
    rw [List.reverse_cons, List.reverse_cons]
    exact sameTs_app ih (.cons a .nil)
/-- the sample of the law's fact -/
def sampleB : Wd := [0, 1, 2, 2, 104, 105, 0, 7, 0, 0, 0, 0]
def wBox : Wd := [98, 111, 120]
def sampleKids : Nds := (.cons [107, 105, 110, 100] 1 0 2 1 [] .nil (.cons [109, 97, 110, 121] 1 2 1 2 [] .nil (.cons [108] 9 3 4 0 [] (.cons [108] 3 3 3 0 [] (.cons [110] 1 3 1 2 [] .nil (.cons [115] 2 4 2 0 [104, 105] .nil .nil)) (.cons [108] 3 6 1 0 [] (.cons [110] 1 6 1 0 [] .nil (.cons [115] 2 7 0 0 [] .nil .nil)) .nil)) (.cons [] 4 7 1 1 [] (.cons [109, 111, 114, 101] 1 7 1 7 [] .nil .nil) (.cons [115, 117, 109] 1 8 4 0 [] .nil .nil)))))
theorem sample_read : oneH (rdS sampleB boxTy.reverse) sampleB (fun _ => none) (rootH wBox) ⟨0, 0⟩ = some (⟨wBox, 3, 0, 12, 0, [], sampleKids⟩, ⟨12, 13⟩) := by
  rfl
end Ly
end Go.Proofs.YtlomecfhobehnaaGreatDoor
end
section
/- layout's reader: items of any structs; structs by their names. -/
namespace Go.Proofs.YtlomecfhobehnaaGreatDoor
open Go Go.RowKit
set_option linter.unusedVariables false
set_option linter.unusedSimpArgs false
open Rd
open Ly
namespace Ly
theorem refs_drop {ts : List Tm.Wd} : ∀ (i : Nat) (l : Tm.Its), RefsI ts l → RefsI ts (l.drop i)
  | 0, l, h => by cases l <;> exact h
  | i + 1, .nil, h => h
  | i + 1, .cons _ l, h => refs_drop i l h.2
  | i + 1, .when _ _ _ l, h => refs_drop i l h.2
end Ly
theorem rditems_any (A : List Tm.Ty) (S : Sub) (s : Tm.Wd) (hs : s.length ≤ 1000000) (ts : List Tm.Wd) (hS : ∀ nm ∈ ts, SubS A S s nm) : ∀ (n : Nat) (l : Tm.Its), l.sz < n → Tm.FineI l → RefsI ts l → l.sz ≤ 100000 → ItsRd A S s l
  | 0, l, h, _, _, _ => absurd h (Nat.not_lt_zero _)
  | n + 1, l, h, hF, hR, hz => by
    refine rditems_step A S s hs l hF (Nat.le_trans (Tm.len_sz l) hz) (fun i a c b r hd => ?_) (fun i hh r t hd hk => ?_)
    · have h1 := Tm.fine_drop i l hF
      have h2 := refs_drop i l hR
      have h3 := Tm.sz_drop i l
      rw [hd] at h1 h2 h3
      have h4 : b.sz + 1 ≤ (Tm.Its.when a c b r).sz := by simp only [Tm.Its.sz]; omega
      exact rditems_any A S s hs ts hS n b (by omega) h1.2.1 h2.1 (by omega)
    · have h2 := refs_drop i l hR
      rw [hd] at h2
      exact hS t (h2.1 t hk)
theorem subs_all (A : List Tm.Ty) (s : Tm.Wd) (hs : s.length ≤ 1000000) (hA : ∀ t ∈ A, Tm.FineT t ∧ Tm.Its.sz t.items ≤ 100000) : ∀ (r : List Tm.Ty), (∀ t ∈ r, t ∈ A) → RChain r → ∀ nm ∈ names r, SubS A (rdS s r) s nm
  | [], _, _, nm, h => by cases h
  | t :: r, hm, hc, nm, h => by
    obtain ⟨c1, c2, c3⟩ := hc
    have ih := subs_all A s hs hA r (fun t' ht' => hm t' (List.mem_cons_of_mem _ ht')) c3
    have htA := hm t (by simp)
    obtain ⟨f1, f2⟩ := hA t htA
    by_cases hn : t.name = nm
    · refine ⟨t, htA, hn, by have := nameB_len f1.1.2; omega, rdS s r, fun st => rdS_at st, rditems_any A (rdS s r) s hs (names r) ih _ t.items (Nat.lt_succ_self _) f1.2 c2 f2⟩
    · have hr : nm ∈ names r := by
        rcases List.mem_cons.1 h with h | h
        · exact absurd h.symm hn
        · exact h
      obtain ⟨t2, g1, g2, g3, S', g4, g5⟩ := ih nm hr
      refine ⟨t2, g1, g2, g3, S', fun st => ?_, g5⟩
      rw [rdS_skip (by rw [g2]; exact hn)]
      exact g4 st
/-! ## formOf -/
structure FoS (U w wr : World) (rb : Nat) (tys : List Tm.Ty) (i : Nat) : Prop where
  bel : Below w.heap.size w wr
  lt : w.heap.size < wr.heap.size
  fm : ∃ n G, MapG Tryz.prog 9 wr w.heap.size n G ∧ n ≤ i ∧ (∀ t ∈ tys.take i, ∃ ga cap bs, G (.string t.name) = some (.slice ga t.items.len cap) ∧ Owns U (rb + 1) 70 13 ga t.items.len cap bs ∧ Tm.EncI U rb t.items bs) ∧ (∀ nm : Tm.Wd, (∀ t ∈ tys.take i, t.name ≠ nm) → G (.string nm) = none)
theorem FoS.start (U w : World) (rb : Nat) (tys : List Tm.Ty) : FoS U w (w.alloc (.map #[] 0)) rb tys 0 :=
  ⟨(Below.refl _ _).alloc (Nat.le_refl _) _, by simp, 0, _, MapG.made w, Nat.le_refl _, fun t ht => by simp at ht, fun nm _ => rfl⟩
theorem FoS.push {U w wr V w5 : World} {rb i nm capb : Nat} {tys : List Tm.Ty} {t : Tm.Ty} {G : Lit → Option Value} {ga : Option Addr} {bs : List Value} {o : Obj} (h : FoS U w wr rb tys i) (hnd : (tys.map (·.name)).Nodup) (hV : V = wr.alloc o) (hti : tys.take (i + 1) = tys.take i ++ [t])
    (hit : Owns U (rb + 1) 70 13 ga t.items.len capb bs ∧ Tm.EncI U rb t.items bs) (hM : nm ≤ i ∧ (∀ t ∈ tys.take i, ∃ ga cap bs, G (.string t.name) = some (.slice ga t.items.len cap) ∧ Owns U (rb + 1) 70 13 ga t.items.len cap bs ∧ Tm.EncI U rb t.items bs) ∧ (∀ nm : Tm.Wd, (∀ t ∈ tys.take i, t.name ≠ nm) → G (.string nm) = none))
    (hm : MapG Tryz.prog 9 w5 w.heap.size (nm + 1) (updL G (.string t.name) (.slice ga t.items.len capb))) (hg : V.grownBy w5 (some w.heap.size)) (hs : w5.heap.size = V.heap.size) : FoS U w w5 rb tys (i + 1) := by
  have hbV : Below w.heap.size w V := by rw [hV]; exact h.bel.alloc h.bel.size _
  have hsz : V.heap.size = wr.heap.size + 1 := by rw [hV]; simp
  obtain ⟨h1, h2, h3⟩ := hM
  have hsub : ((tys.take i ++ [t]).map (·.name)).Nodup := by
    rw [← hti]
    exact List.Sublist.nodup ((List.take_sublist _ _).map _) hnd
  rw [List.map_append, List.nodup_append] at hsub
  have hne : ∀ t' ∈ tys.take i, t'.name ≠ t.name := fun t' ht' => hsub.2.2 _ (List.mem_map_of_mem ht') _ (by simp)
  have hlit : ∀ {a b : Tm.Wd}, a ≠ b → Lit.string a ≠ Lit.string b := fun hab e => by injection e with e; exact hab e
  refine ⟨hbV.grown hg (by have := h.lt; omega) (fun k e => by injection e with e; omega), by have := h.lt; omega, nm + 1, _, hm, by omega, fun t' ht' => ?_, fun x hx => ?_⟩
  · rw [hti] at ht'
    rcases List.mem_append.1 ht' with h4 | h4
    · rw [updL_other _ _ (hlit (hne t' h4))]
      exact h2 t' h4
    · have : t' = t := by simpa using h4
      subst this
      rw [updL_same _ (strL_key _)]
      exact ⟨ga, capb, bs, rfl, hit.1, hit.2⟩
  · rw [hti] at hx
    rw [updL_other _ _ (hlit (fun e => hx t (by simp) e.symm))]
    exact h3 x (fun t' ht' => hx t' (List.mem_append_left _ ht'))
set_option maxRecDepth 100000 in
set_option maxHeartbeats 1000000 in
theorem formOf_any (tys : List Tm.Ty) (U w : World) (hU : Below U.heap.size U w) (rb cap B : Nat) (a : Option Addr) (vs : List Value) (ho : Owns U B 97 3 a tys.length cap vs) (he : Tm.EncT U rb tys vs) (hF : ∀ t ∈ tys, Tm.FineT t) (hn : tys.length ≤ 100) (hnd : (tys.map (·.name)).Nodup) :
    Calls Tryz.prog 27 #[.slice a tys.length cap] w fun e w' => e = .returned (.map (some w.heap.size)) ∧ Below w.heap.size w w' ∧ FormM U w' rb w.heap.size tys := by
  have hcap : tys.length ≤ cap := own_cap ho
  obtain ⟨n, hn'⟩ : ∃ n, n = tys.length := ⟨_, rfl⟩
  rw [← hn'] at hcap hn ⊢
  have HO := Lib.hid ho; have HE := Lib.hid he; have HF := Lib.hid hF; have HN := Lib.hid hn'; have HND := Lib.hid hnd
  have hmk : ∀ V, (Instr.makeMap 59 none).run Tryz.prog V = .ok (.map (some V.heap.size)) (V.alloc (.map #[] 0)) := fun V => by kernel_rfl
  have S0 := Lib.hid (FoS.start U w rb tys)
  clear ho he hF hn' hnd
  go_enter Tryz.func27, Tryz.ntmps27
  go_wp2_with fail
  go_loopw [9] (fun v9 wr => ∃ (i : Nat), v9 = .int .i64 (i : Nat) ∧ i ≤ n ∧ Hid (FoS U w wr rb tys i)) (fun v9 _ => n - (intOf v9).toNat)
  case atStart => exact ⟨0, rfl, Nat.zero_le _, S0⟩
  case round =>
    obtain ⟨i, rfl, hi, HS⟩ := hrel
    clear S0
    by_cases hin : i < n
    · have q1 : decide ((i : Int) < (n : Int)) = true := decide_eq_true (by omega)
      have q2 : decide (i < n) = true := decide_eq_true hin
      have hii : (i : Int) < (n : Int) := by omega
      have HLT := Lib.hid hin
      obtain ⟨x, rfl⟩ : ∃ x, a = some x := by
        cases a with
        | none => have := HO.out.of_none.1; rw [← HN.out] at this; omega
        | some x => exact ⟨x, rfl⟩
      obtain ⟨gb, rfl⟩ : ∃ gb, x = ⟨gb, 0, none⟩ := ⟨x.block, HO.out.row.1⟩
      obtain ⟨t, r, hdr⟩ := Tm.drop_some tys i (by rw [← HN.out]; exact hin)
      obtain ⟨ga, capb, bs, g1, g2, g3, g4⟩ := Tm.EncT.ty HO.out HE.out hdr
      have hmem : t ∈ tys := by
        have : t ∈ tys.drop i := by rw [hdr]; simp
        exact List.mem_of_mem_drop this
      have hti : tys.take (i + 1) = tys.take i ++ [t] := by
        rw [List.take_add, hdr]; rfl
      have hrow := (g3.below hU g3.lt).below HS.out.bel (Nat.lt_of_lt_of_le g3.lt hU.size)
      have c0 := hrow.cell 0 (by simp); have c1 := hrow.cell 1 (by simp); have c2 := hrow.cell 2 (by simp)
      simp only [List.getElem_cons_zero, List.getElem_cons_succ, Nat.add_zero] at c0 c1 c2
      obtain ⟨nm, G, m1, m2, m3, m4⟩ := HS.out.fm
      obtain ⟨V, hV⟩ : ∃ V, V = wr.alloc (.cells #[.string (bstr t.name), .int .i64 (t.at_ : Nat), .slice ga (Tm.Its.len t.items) capb] 97) := ⟨_, rfl⟩
      have hMV : MapG Tryz.prog 9 V w.heap.size nm G := by rw [hV]; exact m1.keep (Below.heap_alloc _ _ _ m1.lt)
      have HMV := Lib.hid hMV
      have HIT := Lib.hid (And.intro g1 g2)
      have HTI := Lib.hid hti
      have HM := Lib.hid (And.intro m2 (And.intro m3 m4))
      have hnl : t.name.length ≤ 100000 := by have := nameB_len (HF.out t hmem).1.2; omega
      have HNL := Lib.hid hnl
      have HV := Lib.hid hV
      clear g1 g2 g3 g4 hrow hdr hmem hti m1 m2 m3 m4 hMV hnl hin hi hV
      have hbx : RowAt (wr.alloc (.cells #[.string { data := #[] }, .int .i64 0, .slice none 0 0] 97)) wr.heap.size 0 97 [.string { data := #[] }, .int .i64 0, .slice none 0 0] := RowAt.new wr 97 #[.string { data := #[] }, .int .i64 0, .slice none 0 0]
      have y0 := hbx.cell0 0 (by simp); have z0 := hbx.frozen0 0 (by simp)
      have y1 := hbx.cell0 1 (by simp); have z1 := hbx.frozen0 1 (by simp)
      have y2 := hbx.cell0 2 (by simp); have z2 := hbx.frozen0 2 (by simp)
      simp only [List.getElem_cons_zero, List.getElem_cons_succ] at y0 y1 y2
      have hby : RowAt (wr.alloc (.cells #[.string (bstr t.name), .int .i64 (t.at_ : Nat), .slice ga (Tm.Its.len t.items) capb] 97)) wr.heap.size 0 97 [.string (bstr t.name), .int .i64 (t.at_ : Nat), .slice ga (Tm.Its.len t.items) capb] := RowAt.new wr 97 #[.string (bstr t.name), .int .i64 (t.at_ : Nat), .slice ga (Tm.Its.len t.items) capb]
      have v0 := hby.cell0 0 (by simp); have v2 := hby.cell0 2 (by simp)
      simp only [List.getElem_cons_zero, List.getElem_cons_succ] at v0 v2
      clear hbx hby
      go_wp2_with (rw [← HV.out]; refine wpList_storeG V rfl _ _ _ 59 rfl 9 63 Tryz.underlying59 (Maps.string_keyed Tryz.underlying9) w.heap.size nm G rfl HMV.out (by have := HM.out.1; show nm < 9223372036854775807; omega) (.string (bstr t.name)) (.slice ga (Tm.Its.len t.items) capb) _ (strL_of Tryz.underlying9 t.name (by have := HNL.out; omega)) (strL_key _) rfl rfl ?_; intro w5 hm5 hg5 hs5)
      go_wp2_with fail
      go_roundw
      case rel => exact ⟨i + 1, rfl, by have := HLT.out; omega, Lib.hid (HS.out.push HND.out HV.out HTI.out HIT.out HM.out hm5 hg5 hs5)⟩
      case measure => simp only [intOf]; have := HLT.out; omega
    · have q1 : decide ((i : Int) < (n : Int)) = false := decide_eq_false (by omega)
      have q2 : decide (i < n) = false := decide_eq_false hin
      have HEQ := Lib.hid (show i = n by omega)
      clear hin hi
      go_wp2_with fail
      go_ret
      obtain ⟨nm, G, m1, m2, m3, m4⟩ := HS.out.fm
      rw [HEQ.out, HN.out, List.take_length] at m3 m4
      exact ⟨rfl, HS.out.bel, nm, G, m1, m3, m4⟩
end Go.Proofs.YtlomecfhobehnaaGreatDoor
end
