/- What types.Check catches. -/
import Derived.Test.YtlomecfhobehnaaGreatDoorMgLayoutBack24
import Derived.Test.YtlomecfhobehnaaGreatDoorMgLayoutBack34
section
/- Contract of tmpl.Parse. Printed by wip/gen_tmo.py. -/
namespace Go.Proofs.YtlomecfhobehnaaGreatDoor
open Go.RowKit
set_option linter.unusedVariables false
set_option linter.unusedSimpArgs false
open Rd
/-- how tmpl.Parse ends -/
def ParseOut (w : World) (E : Nat) (T : List Rd.Tok) (e : Ending) (w' : World) : Prop :=
  Below w.heap.size w w' ∧ ((∃ tys a cap vs, Tm.Tys E 0 T tys ∧ e = .returned (.tuple #[.slice a (List.length tys) cap, .nilIface]) ∧ Owns w' w.heap.size 97 3 a (List.length tys) cap vs ∧ Tm.EncT w' w.heap.size tys vs) ∨ ((∀ tys, ¬ Tm.Tys E 0 T tys) ∧ ∃ g n p : Nat, e = .returned (.tuple #[.slice none 0 0, .iface 120 (.pointer (some ⟨g, 0, none⟩))]) ∧ RowAt w' g 0 122 [.int .i64 (n : Nat), .int .i64 (p : Nat)]))
theorem tys_small {n : Nat} (h : n ≤ 8) : n + 1 ≤ maxLen ∧ (n + 1) * 48 ≤ 140737488355328 := by
  refine ⟨?_, by omega⟩
  show n + 1 ≤ 9223372036854775807
  omega
set_option maxRecDepth 100000 in
set_option maxHeartbeats 8000000 in
theorem TParse_any (s : List UInt8) (T : List Rd.Tok) (w : World) (hs : s.length ≤ 3000) (hm : MarksAt w) (he : Env w w.heap.size) (hn : Lex.lexA s 0 = some T) (hT : Toks T) :
    Calls Tryz.prog 25 #[.string (bstr s)] w (ParseOut w s.length T) := by
  have HL := Lib.hid (LexRead_ok s T (w.alloc (.cells #[.nilIface] 30)) hs (hm.below ((Below.refl _ w).alloc (Nat.le_refl _) _) (Nat.le_refl _)) hn)
  have HE := Lib.hid he
  have HTO := Lib.hid hT
  have hF := fun V en at_ rb => Fail_any rb en at_ V
  unfold thrown at hF
  have HF := Lib.hid hF
  clear hs hm hn hT he hF
  go_enter_defers Tryz.func25, Tryz.ntmps25
  go_wp2_with fail
  refine HL.out.mono ?_
  rintro e w1 ⟨rb, rfl, hr, hrb, hrlt, hb⟩
  have hbox : w1.cell? ⟨w.heap.size, 0, none⟩ = some .nilIface := (hb.cell (p := ⟨w.heap.size, 0, none⟩) (by simp)).trans (by simp)
  have hfz : w1.frozen? ⟨w.heap.size, 0, none⟩ = false := (hb.frozen (p := ⟨w.heap.size, 0, none⟩) (by simp)).trans (by simp)
  have HS : Hid (PS w (w1.setCell ⟨w.heap.size, 0, none⟩ .nilIface) rb T s.length) := Lib.hid (PS.mk' HE.out hr hrb hb)
  have hc0 := HS.out.box.cell0 0 (by simp)
  simp only [List.getElem_cons_zero] at hc0
  clear hr hrb hrlt hb
  obtain ⟨w2, hw2⟩ : ∃ w2, w2 = w1.setCell ⟨w.heap.size, 0, none⟩ .nilIface := ⟨_, rfl⟩
  rw [← hw2] at HS hc0
  go_wp2_with fail
  rw [← hw2]
  clear hw2 hbox hfz hc0
  go_loopw [5] (fun v5 wr => ∃ (ls : List Tm.Ty) (a : Option Addr) (cap : Nat) (T0 : List Rd.Tok) (vs : List Value), v5 = .slice a ls.length cap ∧ Hid (TySt w2 wr rb s.length T T0 ls a cap vs)) (fun _ wr => Rd.leftOf wr rb)
  case atStart => exact ⟨[], none, 0, T, [], rfl, Lib.hid (TySt.start HS.out.env HS.out.rd)⟩
  case round =>
    obtain ⟨ls, a, cap, T0, vs, rfl, HY⟩ := hrel
    have HT0 := Lib.hid (HTO.out.suf HY.out.suf)
    have HTX := Lib.hid (Text_any rb T0 s.length wr HY.out.rd)
    have HYB := Lib.hid (HS.out.box.of_heap (HY.out.gr.block w.heap.size HS.out.box.lt (fun e => by injection e with e; have := HS.out.lt; omega)))
    cases T0 with
    | nil =>
      have hto : textOf ([] : List Rd.Tok) = [] := rfl
      rw [hto] at HTX
      have hc3 := HYB.out.cell0 0 (by simp)
      have hf3 := HYB.out.frozen 0 (by simp)
      simp only [List.getElem_cons_zero] at hc3
      have HB3 := Lib.hid (HS.out.bel.grown HY.out.gr HS.out.bel.size (fun k e => by injection e with e; have := HS.out.lt; omega))
      have hc4 : (wr.setCell ⟨w.heap.size, 0, none⟩ .nilIface).cell? ⟨w.heap.size, 0, none⟩ = some .nilIface := World.cell?_setCell_same' _ _ _ (by rw [hc3]; rfl)
      clear hto
      go_wp2_with fail
      refine HTX.out.mono ?_
      rintro e w4 ⟨rfl, rfl⟩
      go_wp2_with fail
      refine leaves_cons (f := 49) (args := #[.pointer (some ⟨w.heap.size, 0, none⟩)]) (by simp) (by simp [go_sem]) ?_
      refine (catch_idle w.heap.size _).mono ?_
      rintro e u' w5 ⟨rfl, rfl, rfl⟩
      simp [Leaves, settle, results, Tryz.results25, go_sem, hc4]
      refine ⟨HB3.out.setCell (p := ⟨w.heap.size, 0, none⟩) (Nat.le_refl _) _, .inl ⟨ls, a, cap, vs, HY.out.done, rfl, ?_, ?_⟩⟩
      · refine (HY.out.own.far (fun y hy => ?_) _).mono (Nat.le_trans (Nat.le_of_lt HS.out.lt) (Nat.le_of_lt HS.out.rd.lt))
        have ho := HY.out.own
        subst hy
        have := ho.lt.1; have := HS.out.lt; have := HS.out.rd.lt
        show y.block ≠ w.heap.size
        omega
      · refine Tm.EncT.keep ?_ ?_ ls vs (Tm.EncT.low (Nat.le_of_lt HS.out.lt) ls vs HY.out.enc)
        · exact fun g xs hg hrow => Below.heap_setCell w4 ⟨w.heap.size, 0, none⟩ .nilIface g (by show g ≠ w.heap.size; omega)
        · exact fun g xs hg hrow => Below.heap_setCell w4 ⟨w.heap.size, 0, none⟩ .nilIface g (by show g ≠ w.heap.size; omega)
    | cons t T1 =>
      have htx : textOf (t :: T1) = t.1 := rfl
      rw [htx] at HTX
      have htne := (HT0.out t (by simp)).1
      have q1 : (t.1 == []) = false := by rw [beq_eq_false_iff_ne]; exact htne
      have q1b : (t.1 != []) = true := by rw [bne, q1]; rfl
      have q1c : t.1.isEmpty = false := by cases h9 : t.1 with | nil => exact absurd h9 htne | cons a b => rfl
      have HA := Lib.hid (At_any rb (t :: T1) s.length wr HY.out.rd)
      have hat : Ex.atOf s.length (t :: T1) = t.2 := rfl
      rw [hat] at HA
      have HM := Lib.hid (must_any wr rb s.length (t :: T1) Tm.wStruct (by decide) HY.out.rd)
      unfold Bad thrown at HM
      have hfew := HY.out.few
      generalize hnn : ls.length = n at *
      have HN := Lib.hid hnn
      have HTNE := Lib.hid htne
      clear hnn htx hat htne
      by_cases hst : t.1 = Tm.wStruct
      · have q2 : (t.1 == [115, 116, 114, 117, 99, 116]) = true := by rw [beq_iff_eq]; exact hst
        have HST := Lib.hid hst
        by_cases h8 : n = 8
        · have q3 : ((n : Int) == 8) = true := by rw [beq_iff_eq]; omega
          have q4 : (n == 8) = true := by rw [beq_iff_eq]; exact h8
          have H8 := Lib.hid h8
          clear h8 hfew hst
          go_wp2_with fail
          refine HTX.out.mono ?_
          rintro e w4 ⟨rfl, rfl⟩
          go_wp2_with fail
          refine HTX.out.mono ?_
          rintro e w4 ⟨rfl, rfl⟩
          go_wp2_with fail
          refine HA.out.mono ?_
          rintro e w4 ⟨rfl, rfl⟩
          go_wp2_with fail
          obtain ⟨w8, hw8⟩ : ∃ w8, w8 = w4 := ⟨_, rfl⟩
          refine (HF.out _ _ _ _).mono ?_
          rintro e w3 ⟨rfl, hrow, hb9⟩
          obtain ⟨g, hgq⟩ : ∃ g, g = w8.heap.size := ⟨_, rfl⟩
          rw [← hw8, ← hgq] at hrow
          rw [← hw8] at hb9 HY
          rw [← hw8, ← hgq]
          have hgle : w8.heap.size ≤ g := by rw [hgq]; exact Nat.le_refl _
          have hgr9 := below_grown hb9 (some rb)
          clear hw8 hb9 hgq
          have hg3 := grownBy_trans HY.out.gr hgr9
          have hg : w2.heap.size ≤ g := Nat.le_trans (HY.out.gr).size hgle
          have hbox3 := HS.out.box.of_heap (hg3.block w.heap.size HS.out.box.lt (fun e => by injection e with e; have := HS.out.lt; omega))
          have hc3 := hbox3.cell0 0 (by simp)
          have hf3 := hbox3.frozen 0 (by simp)
          simp only [List.getElem_cons_zero] at hc3
          have hl3 := hbox3.lt
          have HB3 := Lib.hid (HS.out.bel.grown hg3 HS.out.bel.size (fun k e => by injection e with e; have := HS.out.lt; omega))
          have hgne : w.heap.size < g := by have := HS.out.bel.size; have h2 := HS.out.lt; have h3 := HS.out.rd.lt; omega
          have HROW := Lib.hid hrow; have HGN := Lib.hid hgne
          have HNEG := Lib.hid (show ∀ L, ¬ Tm.Tys s.length 0 T L from HY.out.stuck (by simp) (fun h => absurd (HN.out.symm ▸ h) (by have := H8.out; omega)))
          clear hg hg3 hbox3 hgne
          go_wp2_with fail
          refine leaves_cons (f := 49) (args := #[.pointer (some ⟨w.heap.size, 0, none⟩)]) (by simp) (by simp [go_sem]) ?_
          refine (catch_thrown w.heap.size .nilIface g [] _ hc3 hf3 hl3).mono ?_
          rintro e u' w9 ⟨rfl, rfl, o, rfl⟩
          have hc5 : (w3.setCell ⟨w.heap.size, 0, none⟩ (.iface 120 (.pointer (some ⟨g, 0, none⟩)))).cell? ⟨w.heap.size, 0, none⟩ = some (.iface 120 (.pointer (some ⟨g, 0, none⟩))) := World.cell?_setCell_same' _ _ _ (by rw [hc3]; rfl)
          have hb6 := (Below.refl (w3.setCell ⟨w.heap.size, 0, none⟩ (.iface 120 (.pointer (some ⟨g, 0, none⟩)))).heap.size (w3.setCell ⟨w.heap.size, 0, none⟩ (.iface 120 (.pointer (some ⟨g, 0, none⟩))))).alloc (Nat.le_refl _) o
          have hc6 : ((w3.setCell ⟨w.heap.size, 0, none⟩ (.iface 120 (.pointer (some ⟨g, 0, none⟩)))).alloc o).cell? ⟨w.heap.size, 0, none⟩ = some (.iface 120 (.pointer (some ⟨g, 0, none⟩))) := (hb6.cell (p := ⟨w.heap.size, 0, none⟩) (by simpa using hl3)).trans hc5
          have hrow6 := ((HROW.out.far (p := ⟨w.heap.size, 0, none⟩) (Nat.ne_of_gt HGN.out) (.iface 120 (.pointer (some ⟨g, 0, none⟩)))).alloc o)
          have hbel : Below w.heap.size w ((w3.setCell ⟨w.heap.size, 0, none⟩ (.iface 120 (.pointer (some ⟨g, 0, none⟩)))).alloc o) := (HB3.out.setCell (p := ⟨w.heap.size, 0, none⟩) (Nat.le_refl _) _).alloc (by simpa using HB3.out.size) o
          simp [Leaves, settle, results, Tryz.results25, go_sem, hc6]
          exact ⟨hbel, .inr ⟨HNEG.out, g, _, _, rfl, hrow6⟩⟩
        · have q3 : ((n : Int) == 8) = false := by rw [beq_eq_false_iff_ne]; omega
          have q4 : (n == 8) = false := by rw [beq_eq_false_iff_ne]; exact h8
          obtain ⟨hs1, hs2⟩ := tys_small (show n ≤ 8 by omega)
          have H8 := Lib.hid (show n < 8 by omega)
          clear h8 hfew hst
          go_wp2_with fail
          refine HTX.out.mono ?_
          rintro e w4 ⟨rfl, rfl⟩
          go_wp2_with fail
          refine HTX.out.mono ?_
          rintro e w4 ⟨rfl, rfl⟩
          go_wp2_with fail
          refine HM.out.mono ?_
          rintro e w5 (⟨t', R, hcons, _, rfl, hr5, hg5⟩ | ⟨hno, _⟩)
          rotate_left
          · exact absurd HST.out hno
          cases hcons
          have HEN5 := Lib.hid (HY.out.env.grown hg5 HY.out.rd.lt)
          have HR5 := Lib.hid hr5; have HG5 := Lib.hid hg5
          have HTR := Lib.hid (HT0.out.suf (List.suffix_cons t T1))
          clear hr5 hg5 HM HTX HA
          go_wp2_with fail
          refine (At_any rb T1 s.length _ HR5.out).mono ?_
          rintro e w6 ⟨rfl, rfl⟩
          obtain ⟨at_, hat⟩ : ∃ a, a = Ex.atOf s.length T1 := ⟨_, rfl⟩
          rw [← hat]
          have HAT := Lib.hid hat
          clear hat
          have HB6 := Lib.hid (TbSt.start HEN5.out HR5.out at_)
          go_wp2_with fail
          have HNM := Lib.hid (name_any _ rb s.length T1 HB6.out.rd HTR.out)
          unfold Bad thrown at HNM
          refine HNM.out.mono ?_
          rintro e w7 (⟨u, R, rfl, hu, rfl, hr7, hg7⟩ | ⟨hno, g, en, p, rfl, g1, g2, g3⟩)
          · have HB7 := Lib.hid (HB6.out.move hr7 hg7)
            obtain ⟨a0, b0⟩ := HB7.out.cell 0 (by simp)
            have HB8 := Lib.hid (HB7.out.set 0 (by simp) (.string (bstr u.1)))
            simp only [List.getElem_cons_zero] at a0
            have HU := Lib.hid hu
            have HATU := Lib.hid (show at_ = u.2 from HAT.out)
            have HTR2 := Lib.hid (HTR.out.suf (List.suffix_cons u R))
            clear hr7 hg7 hu HNM
            go_wp2_with fail
            have HBK := Lib.hid (block_one rb s.length R HTR2.out _ HB8.out.env HB8.out.rd)
            unfold BlockOut Bad thrown at HBK
            refine HBK.out.mono ?_
            rintro e w9 (⟨l, R2, ga, cb, bs, hbp, rfl, hown, henc, hr9, hg9⟩ | ⟨hno, g, en, p, rfl, g1, g2, g3⟩)
            · have HB9 := Lib.hid (HB8.out.move hr9 hg9)
              obtain ⟨a2, b2⟩ := HB9.out.cell 2 (by simp)
              have HBA := Lib.hid (HB9.out.set 2 (by simp) (.slice ga (Tm.Its.len l) cb))
              obtain ⟨k1, k2⟩ := HB9.out.keeps 2 (.slice ga (Tm.Its.len l) cb)
              have HK1 := Lib.hid k1; have HK2 := Lib.hid k2
              obtain ⟨c0, _⟩ := HBA.out.cell 0 (by simp)
              obtain ⟨c1, _⟩ := HBA.out.cell 1 (by simp)
              obtain ⟨c2, _⟩ := HBA.out.cell 2 (by simp)
              simp only [List.set_cons_zero, List.set_cons_succ, List.getElem_cons_zero, List.getElem_cons_succ] at a2 c0 c1 c2
              have HBP := Lib.hid hbp; have HOW := Lib.hid (hown.mono (show rb + 1 ≤ _ from HB8.out.rd.lt)); have HEC := Lib.hid (Tm.EncI.of henc)
              clear hr9 hg9 hbp hown henc HBK k1 k2
              have hgt := grownBy_trans HG5.out HBA.out.gr
              have HGT := Lib.hid hgt
              have hownA := HY.out.own.grown hgt (fun y hy e => by injection e with e; have ho := HY.out.own; subst hy; have := ho.lt.1; have := HY.out.lt; omega)
              rw [HN.out] at hownA
              have HOA := Lib.hid hownA
              have hbs : w2.heap.size ≤ (w9.setCell ⟨w6.heap.size, 2, none⟩ (.slice ga (Tm.Its.len l) cb)).heap.size := Nat.le_trans HY.out.gr.size hgt.size
              clear hgt hownA
              have HSZ9 : Hid (w9.heap.size = (w9.setCell ⟨w6.heap.size, 2, none⟩ (.slice ga (Tm.Its.len l) cb)).heap.size) := Lib.hid (by simp)
              go_wp2_with (with_reducible refine wpList_pushW (w9.setCell ⟨w6.heap.size, 2, none⟩ (.slice ga (Tm.Its.len l) cb)) w9.heap.size HSZ9.out rfl _ _ 23 rfl w2.heap.size 97 (.agg #[.string ByteArray.empty, .int .i64 0, .slice none 0 0]) 3 48 Tryz.underlying23 infoType rfl (by decide) a n cap vs rfl HOA.out [.string (bstr u.1), .int .i64 (at_ : Nat), .slice ga (Tm.Its.len l) cb] rfl (by simp [Value.oneCell']) rfl hs1 hs2 hbs ?_; intro a' cap' wB hownB hgrowB hlocB hszB hexB)
              have HSB := Lib.hid (HY.out.push (by rw [HN.out]; exact H8.out) HST.out HU.out HBP.out HBA.out.rd HGT.out (HOW.out.keep fun y hy => by have ho := HOW.out; subst hy; exact HK2.out _ _ (by have := ho.lt.1; omega) ho.row.2.2.2.2) (Tm.Enc.keep2 HK1.out HK2.out _ _ HEC.out) (by rw [HN.out, ← HATU.out]; exact hownB) hgrowB)
              have hml : Rd.leftOf wB rb < Rd.leftOf w4 rb := by
                rw [HSB.out.rd.left, HY.out.rd.left]
                have := HBP.out.suf.2
                simp only [List.length_cons]
                omega
              have HML := Lib.hid hml
              have hl5 : (ls ++ [(⟨u.1, u.2, l⟩ : Tm.Ty)]).length = n + 1 := by rw [List.length_append, HN.out]; rfl
              clear hownB hgrowB hlocB hszB hexB hml
              go_wp2_with fail
              go_roundw
              case rel => exact ⟨ls ++ [⟨u.1, u.2, l⟩], a', cap', R2, _, by rw [hl5], HSB⟩
              case measure => exact HML.out
            · skip
              have hg3 := grownBy_trans (grownBy_trans HY.out.gr (grownBy_trans HG5.out HB8.out.gr)) g3
              have hg : w2.heap.size ≤ g := Nat.le_trans ((grownBy_trans HY.out.gr (grownBy_trans HG5.out HB8.out.gr))).size g2
              have hbox3 := HS.out.box.of_heap (hg3.block w.heap.size HS.out.box.lt (fun e => by injection e with e; have := HS.out.lt; omega))
              have hc3 := hbox3.cell0 0 (by simp)
              have hf3 := hbox3.frozen 0 (by simp)
              simp only [List.getElem_cons_zero] at hc3
              have hl3 := hbox3.lt
              have HB3 := Lib.hid (HS.out.bel.grown hg3 HS.out.bel.size (fun k e => by injection e with e; have := HS.out.lt; omega))
              have hgne : w.heap.size < g := by have := HS.out.bel.size; have h2 := HS.out.lt; have h3 := HS.out.rd.lt; omega
              have HROW := Lib.hid g1; have HGN := Lib.hid hgne
              have HNEG := Lib.hid (show ∀ L, ¬ Tm.Tys s.length 0 T L from HY.out.stuck (by simp) (fun _ t2 m U R ty e1 e2 e3 e4 => by cases e1; exact hno _ _ e4))
              clear hg hg3 hbox3 hgne
              go_wp2_with fail
              refine leaves_cons (f := 49) (args := #[.pointer (some ⟨w.heap.size, 0, none⟩)]) (by simp) (by simp [go_sem]) ?_
              refine (catch_thrown w.heap.size .nilIface g [] _ hc3 hf3 hl3).mono ?_
              rintro e u' wz ⟨rfl, rfl, o, rfl⟩
              have hc5 : (w9.setCell ⟨w.heap.size, 0, none⟩ (.iface 120 (.pointer (some ⟨g, 0, none⟩)))).cell? ⟨w.heap.size, 0, none⟩ = some (.iface 120 (.pointer (some ⟨g, 0, none⟩))) := World.cell?_setCell_same' _ _ _ (by rw [hc3]; rfl)
              have hb6 := (Below.refl (w9.setCell ⟨w.heap.size, 0, none⟩ (.iface 120 (.pointer (some ⟨g, 0, none⟩)))).heap.size (w9.setCell ⟨w.heap.size, 0, none⟩ (.iface 120 (.pointer (some ⟨g, 0, none⟩))))).alloc (Nat.le_refl _) o
              have hc6 : ((w9.setCell ⟨w.heap.size, 0, none⟩ (.iface 120 (.pointer (some ⟨g, 0, none⟩)))).alloc o).cell? ⟨w.heap.size, 0, none⟩ = some (.iface 120 (.pointer (some ⟨g, 0, none⟩))) := (hb6.cell (p := ⟨w.heap.size, 0, none⟩) (by simpa using hl3)).trans hc5
              have hrow6 := ((HROW.out.far (p := ⟨w.heap.size, 0, none⟩) (Nat.ne_of_gt HGN.out) (.iface 120 (.pointer (some ⟨g, 0, none⟩)))).alloc o)
              have hbel : Below w.heap.size w ((w9.setCell ⟨w.heap.size, 0, none⟩ (.iface 120 (.pointer (some ⟨g, 0, none⟩)))).alloc o) := (HB3.out.setCell (p := ⟨w.heap.size, 0, none⟩) (Nat.le_refl _) _).alloc (by simpa using HB3.out.size) o
              simp [Leaves, settle, results, Tryz.results25, go_sem, hc6]
              exact ⟨hbel, .inr ⟨HNEG.out, g, _, _, rfl, hrow6⟩⟩
          · skip
            have hg3 := grownBy_trans (grownBy_trans HY.out.gr (grownBy_trans HG5.out HB6.out.gr)) g3
            have hg : w2.heap.size ≤ g := Nat.le_trans ((grownBy_trans HY.out.gr (grownBy_trans HG5.out HB6.out.gr))).size g2
            have hbox3 := HS.out.box.of_heap (hg3.block w.heap.size HS.out.box.lt (fun e => by injection e with e; have := HS.out.lt; omega))
            have hc3 := hbox3.cell0 0 (by simp)
            have hf3 := hbox3.frozen 0 (by simp)
            simp only [List.getElem_cons_zero] at hc3
            have hl3 := hbox3.lt
            have HB3 := Lib.hid (HS.out.bel.grown hg3 HS.out.bel.size (fun k e => by injection e with e; have := HS.out.lt; omega))
            have hgne : w.heap.size < g := by have := HS.out.bel.size; have h2 := HS.out.lt; have h3 := HS.out.rd.lt; omega
            have HROW := Lib.hid g1; have HGN := Lib.hid hgne
            have HNEG := Lib.hid (show ∀ L, ¬ Tm.Tys s.length 0 T L from HY.out.stuck (by simp) (fun _ t2 m U R ty e1 e2 e3 _ => by cases e1; rw [show Tm.textOf (m :: U) = m.1 from rfl, e3] at hno; cases hno))
            clear hg hg3 hbox3 hgne
            go_wp2_with fail
            refine leaves_cons (f := 49) (args := #[.pointer (some ⟨w.heap.size, 0, none⟩)]) (by simp) (by simp [go_sem]) ?_
            refine (catch_thrown w.heap.size .nilIface g [] _ hc3 hf3 hl3).mono ?_
            rintro e u' w9 ⟨rfl, rfl, o, rfl⟩
            have hc5 : (w7.setCell ⟨w.heap.size, 0, none⟩ (.iface 120 (.pointer (some ⟨g, 0, none⟩)))).cell? ⟨w.heap.size, 0, none⟩ = some (.iface 120 (.pointer (some ⟨g, 0, none⟩))) := World.cell?_setCell_same' _ _ _ (by rw [hc3]; rfl)
            have hb6 := (Below.refl (w7.setCell ⟨w.heap.size, 0, none⟩ (.iface 120 (.pointer (some ⟨g, 0, none⟩)))).heap.size (w7.setCell ⟨w.heap.size, 0, none⟩ (.iface 120 (.pointer (some ⟨g, 0, none⟩))))).alloc (Nat.le_refl _) o
            have hc6 : ((w7.setCell ⟨w.heap.size, 0, none⟩ (.iface 120 (.pointer (some ⟨g, 0, none⟩)))).alloc o).cell? ⟨w.heap.size, 0, none⟩ = some (.iface 120 (.pointer (some ⟨g, 0, none⟩))) := (hb6.cell (p := ⟨w.heap.size, 0, none⟩) (by simpa using hl3)).trans hc5
            have hrow6 := ((HROW.out.far (p := ⟨w.heap.size, 0, none⟩) (Nat.ne_of_gt HGN.out) (.iface 120 (.pointer (some ⟨g, 0, none⟩)))).alloc o)
            have hbel : Below w.heap.size w ((w7.setCell ⟨w.heap.size, 0, none⟩ (.iface 120 (.pointer (some ⟨g, 0, none⟩)))).alloc o) := (HB3.out.setCell (p := ⟨w.heap.size, 0, none⟩) (Nat.le_refl _) _).alloc (by simpa using HB3.out.size) o
            simp [Leaves, settle, results, Tryz.results25, go_sem, hc6]
            exact ⟨hbel, .inr ⟨HNEG.out, g, _, _, rfl, hrow6⟩⟩
      · have q2 : (t.1 == [115, 116, 114, 117, 99, 116]) = false := by rw [beq_eq_false_iff_ne]; exact hst
        have HST := Lib.hid hst
        clear hfew hst
        go_wp2_with fail
        refine HTX.out.mono ?_
        rintro e w4 ⟨rfl, rfl⟩
        go_wp2_with fail
        refine HTX.out.mono ?_
        rintro e w4 ⟨rfl, rfl⟩
        go_wp2_with fail
        refine HM.out.mono ?_
        rintro e w3 (⟨t', R, hcons, hx, _⟩ | ⟨hno, g, en, p, rfl, g1, g2, g3⟩)
        · cases hcons; exact absurd hx HST.out
        · skip
          have hg3 := grownBy_trans HY.out.gr g3
          have hg : w2.heap.size ≤ g := Nat.le_trans (HY.out.gr).size g2
          have hbox3 := HS.out.box.of_heap (hg3.block w.heap.size HS.out.box.lt (fun e => by injection e with e; have := HS.out.lt; omega))
          have hc3 := hbox3.cell0 0 (by simp)
          have hf3 := hbox3.frozen 0 (by simp)
          simp only [List.getElem_cons_zero] at hc3
          have hl3 := hbox3.lt
          have HB3 := Lib.hid (HS.out.bel.grown hg3 HS.out.bel.size (fun k e => by injection e with e; have := HS.out.lt; omega))
          have hgne : w.heap.size < g := by have := HS.out.bel.size; have h2 := HS.out.lt; have h3 := HS.out.rd.lt; omega
          have HROW := Lib.hid g1; have HGN := Lib.hid hgne
          have HNEG := Lib.hid (show ∀ L, ¬ Tm.Tys s.length 0 T L from HY.out.stuck (by simp) (fun _ t2 m U R ty e1 e2 _ _ => by cases e1; exact HST.out e2))
          clear hg hg3 hbox3 hgne
          go_wp2_with fail
          refine leaves_cons (f := 49) (args := #[.pointer (some ⟨w.heap.size, 0, none⟩)]) (by simp) (by simp [go_sem]) ?_
          refine (catch_thrown w.heap.size .nilIface g [] _ hc3 hf3 hl3).mono ?_
          rintro e u' w9 ⟨rfl, rfl, o, rfl⟩
          have hc5 : (w3.setCell ⟨w.heap.size, 0, none⟩ (.iface 120 (.pointer (some ⟨g, 0, none⟩)))).cell? ⟨w.heap.size, 0, none⟩ = some (.iface 120 (.pointer (some ⟨g, 0, none⟩))) := World.cell?_setCell_same' _ _ _ (by rw [hc3]; rfl)
          have hb6 := (Below.refl (w3.setCell ⟨w.heap.size, 0, none⟩ (.iface 120 (.pointer (some ⟨g, 0, none⟩)))).heap.size (w3.setCell ⟨w.heap.size, 0, none⟩ (.iface 120 (.pointer (some ⟨g, 0, none⟩))))).alloc (Nat.le_refl _) o
          have hc6 : ((w3.setCell ⟨w.heap.size, 0, none⟩ (.iface 120 (.pointer (some ⟨g, 0, none⟩)))).alloc o).cell? ⟨w.heap.size, 0, none⟩ = some (.iface 120 (.pointer (some ⟨g, 0, none⟩))) := (hb6.cell (p := ⟨w.heap.size, 0, none⟩) (by simpa using hl3)).trans hc5
          have hrow6 := ((HROW.out.far (p := ⟨w.heap.size, 0, none⟩) (Nat.ne_of_gt HGN.out) (.iface 120 (.pointer (some ⟨g, 0, none⟩)))).alloc o)
          have hbel : Below w.heap.size w ((w3.setCell ⟨w.heap.size, 0, none⟩ (.iface 120 (.pointer (some ⟨g, 0, none⟩)))).alloc o) := (HB3.out.setCell (p := ⟨w.heap.size, 0, none⟩) (Nat.le_refl _) _).alloc (by simpa using HB3.out.size) o
          simp [Leaves, settle, results, Tryz.results25, go_sem, hc6]
          exact ⟨hbel, .inr ⟨HNEG.out, g, _, _, rfl, hrow6⟩⟩
end Go.Proofs.YtlomecfhobehnaaGreatDoor
end
section
/- What types.Check catches. -/
namespace Go.Proofs.YtlomecfhobehnaaGreatDoor
open Go.RowKit
set_option linter.unusedVariables false
set_option linter.unusedSimpArgs false
open Rd
set_option maxRecDepth 100000 in
set_option maxHeartbeats 1000000 in
theorem catchT_thrown (pb : Nat) (x : Value) (g : Nat) (older : List PanicEntry) (w : World) (hc : w.cell? ⟨pb, 0, none⟩ = some x) (hz : w.frozen? ⟨pb, 0, none⟩ = false) (hp : pb < w.heap.size) :
    CallsD Tryz.prog 56 #[.pointer (some ⟨pb, 0, none⟩)] (.panicking ({ v := .iface 101 (.agg #[.iface 120 (.pointer (some ⟨g, 0, none⟩))]), recovered := false } :: older)) w fun e u' w' =>
      e = .returned (.tuple #[]) ∧ u' = .panicking ({ v := .iface 101 (.agg #[.iface 120 (.pointer (some ⟨g, 0, none⟩))]), recovered := true } :: older) ∧ ∃ o, w' = (w.setCell ⟨pb, 0, none⟩ (.iface 120 (.pointer (some ⟨g, 0, none⟩)))).alloc o := by
  refine callsD_of_wpS Tryz.func56 rfl fun c₀ cs hu => ?_
  simp only [Tryz.ntmps56, List.size_toArray, List.length_cons, List.length_nil, Nat.reduceAdd, Nat.reduceSub, Array.replicate_succ, Array.replicate_zero, List.push_toArray, List.append_toArray, List.nil_append, List.cons_append]
  apply wpS_seq
  apply wpS_region
  simp [wpOpsS, go_sem, recoverD, hu, Tryz.ntmps56, Exit.thenS]
  refine wpS_of_wp ?_
  have hta : ∀ V : World, (Instr.typeAssert (.iface 101 (.agg #[.iface 120 (.pointer (some ⟨g, 0, none⟩))])) 20 101 true).run Tryz.prog V = .ok (.tuple #[.agg #[.iface 120 (.pointer (some ⟨g, 0, none⟩))], .bool true]) V := fun V => by kernel_rfl
  go_wp2_with fail
  exact ⟨rfl, _, rfl, .tuple #[], results_none rfl _ _ _, rfl, rfl, _, rfl⟩
set_option maxRecDepth 100000 in
set_option maxHeartbeats 1000000 in
theorem catchT_idle (pb : Nat) (w : World) :
    CallsD Tryz.prog 56 #[.pointer (some ⟨pb, 0, none⟩)] .returning w fun e u' w' => e = .returned (.tuple #[]) ∧ u' = .returning ∧ w' = w := by
  refine callsD_of_wpS Tryz.func56 rfl fun c₀ cs hu => ?_
  simp only [Tryz.ntmps56, List.size_toArray, List.length_cons, List.length_nil, Nat.reduceAdd, Nat.reduceSub, Array.replicate_succ, Array.replicate_zero, List.push_toArray, List.append_toArray, List.nil_append, List.cons_append]
  apply wpS_seq
  apply wpS_region
  simp [wpOpsS, go_sem, recoverD, hu, Tryz.ntmps56, Exit.thenS]
  refine wpS_of_wp ?_
  go_wp2_with fail
  cases c₀
  simp_all [bodyPostS, results, Tryz.results56]
namespace Tm
theorem chk_twice {ts : List Wd} {t : Ty} {r : List Ty} {o : Option Nat} (h : o = chk ts (t :: r)) (h1 : ts.contains t.name = true) : o = some 9 := by rw [h, chk, if_pos h1]
theorem chk_items (ts : List Wd) (t : Ty) (r : List Ty) (h1 : ts.contains t.name = false) : chk ts (t :: r) = match itemsE ts t.items [] [] with | .bad e => some e | .ok _ _ => chk (t.name :: ts) r := by
  rw [chk, h1, if_neg (by decide)]
  unfold itemsE
  cases chkL ts t.items [] [] with
  | bad e => rfl
  | ok n2 s2 =>
    simp only []
    cases rulesE t.items.row <;> rfl
end Tm
end Go.Proofs.YtlomecfhobehnaaGreatDoor
end
