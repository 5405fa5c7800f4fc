/- The template 'box' of the laws. -/
import Derived.Test.YtlomecfhobehnaaGreatDoorMgLayoutBack39
import Derived.Test.YtlomecfhobehnaaGreatDoorMgLayoutBack40
import Derived.Test.YtlomecfhobehnaaGreatDoorMgLayoutBack34
import Derived.Test.YtlomecfhobehnaaGreatDoorMgLayoutBack38
import Derived.Test.YtlomecfhobehnaaGreatDoorMgLayoutBack16
section
/- Contract of types.Check. Printed by wip/gen_tyj.py. -/
namespace Go.Proofs.YtlomecfhobehnaaGreatDoor
open Go.RowKit
set_option linter.unusedVariables false
set_option linter.unusedSimpArgs false
open Rd
/-- how types.Check ends -/
def CheckOut (w : World) (o : Option Nat) (e : Ending) (w' : World) : Prop := Below w.heap.size w w' ∧ match o with
  | none => e = .returned .nilIface
  | some n => ∃ g p : Nat, e = .returned (.iface 120 (.pointer (some ⟨g, 0, none⟩))) ∧ RowAt w' g 0 122 [.int .i64 (n : Nat), .int .i64 (p : Nat)]
structure ChS (w wr : World) (ts : List Tm.Wd) : Prop where
  bel : Below w.heap.size w wr
  box : RowAt wr w.heap.size 0 30 [.nilIface]
  tm : NameSet wr (w.heap.size + 1) ts
  lt : w.heap.size + 1 < wr.heap.size
theorem chs_start (w : World) : ChS w ((w.alloc (.cells #[.nilIface] 30)).alloc (.map #[] 0)) [] := by
  have hb := ((Below.refl w.heap.size w).alloc (Nat.le_refl _) (.cells #[.nilIface] 30))
  refine ⟨hb.alloc (by simp) _, (RowAt.new w 30 #[.nilIface]).alloc _, ?_, by simp⟩
  have := MapN.made (P := Tryz.prog) (k := 9) (e := 3) (w.alloc (.cells #[.nilIface] 30))
  rw [World.size_alloc] at this
  exact this
/-- a struct's checker, made -/
theorem its_start {w wr : World} {ts : List Tm.Wd} (h : ChS w wr ts) (bx : Obj) :
    ItS (wr.alloc bx) (((wr.alloc bx).alloc (.map #[] 0)).alloc (.cells #[.map (some (w.heap.size + 1)), .map (some (wr.heap.size + 1)), .slice none 0 0] 107)) (wr.heap.size + 2) (w.heap.size + 1) (wr.heap.size + 1) ts [] [] none 0 := by
  have h1 : Below wr.heap.size wr (wr.alloc bx) := (Below.refl _ _).alloc (Nat.le_refl _) _
  have h2 : Below (wr.alloc bx).heap.size (wr.alloc bx) ((wr.alloc bx).alloc (.map #[] 0)) := (Below.refl _ _).alloc (Nat.le_refl _) _
  have h3 : Below ((wr.alloc bx).alloc (.map #[] 0)).heap.size ((wr.alloc bx).alloc (.map #[] 0)) (((wr.alloc bx).alloc (.map #[] 0)).alloc (.cells #[.map (some (w.heap.size + 1)), .map (some (wr.heap.size + 1)), .slice none 0 0] 107)) := (Below.refl _ _).alloc (Nat.le_refl _) _
  have hlt := h.lt
  have t1 := h.tm.keep (h1.block _ h.tm.lt)
  have t2 := t1.keep (h2.block _ t1.lt)
  have t3 := t2.keep (h3.block _ t2.lt)
  have m2 := MapN.made (P := Tryz.prog) (k := 9) (e := 3) (wr.alloc bx)
  rw [World.size_alloc] at m2
  have m3 := m2.keep (h3.block _ m2.lt)
  refine ⟨h2.trans (h3.mono h2.size), ?_, by simp, t3, m3, by simp, Owns.nil _ _ _ _, by omega⟩
  have := RowAt.new ((wr.alloc bx).alloc (.map #[] 0)) 107 #[.map (some (w.heap.size + 1)), .map (some (wr.heap.size + 1)), .slice none 0 0]
  rw [World.size_alloc, World.size_alloc] at this
  exact this
/-- .. done -/
theorem ChS.done {w wr w4 w5 : World} {ts ns' seen : List Tm.Wd} {bx : Obj} {cb mb sc : Nat} {sa : Option Addr} {s : Tm.Wd} (h : ChS w wr ts) (hi : ItS (wr.alloc bx) w4 cb (w.heap.size + 1) mb ts ns' seen sa sc) (hm : MapN Tryz.prog 9 3 w5 (w.heap.size + 1) (ts.length + 1) (s :: ts)) (hg : w4.grownBy w5 (some (w.heap.size + 1))) : ChS w w5 (s :: ts) := by
  have h1 : Below wr.heap.size wr (wr.alloc bx) := (Below.refl _ _).alloc (Nat.le_refl _) _
  have h4 : Below wr.heap.size wr w4 := h1.trans (hi.bel.mono (by simp))
  have hb := h.bel.trans (h4.mono h.bel.size)
  have hbx := h.box.below h4 h.box.lt
  refine ⟨hb.grown hg hb.size (fun k e => by injection e with e; omega), hbx.of_heap (hg.block _ hbx.lt (fun e => by injection e with e; omega)), hm, ?_⟩
  have := h.lt; have h5 := h4.size; have h6 := hg.size; omega
set_option maxRecDepth 100000 in
set_option maxHeartbeats 8000000 in
theorem Check_any (tys : List Tm.Ty) (w : World) (rb cap B : Nat) (a : Option Addr) (vs : List Value) (ho : Owns w B 97 3 a tys.length cap vs) (he : Tm.EncT w rb tys vs) (hF : ∀ t ∈ tys, Tm.FineT t ∧ Tm.FewX t.items ∧ Tm.Its.sz t.items ≤ 100000) (hn : tys.length ≤ 100) :
    Calls Tryz.prog 26 #[.slice a tys.length cap] w (CheckOut w (Tm.chk [] tys)) := by
  have hcap : tys.length ≤ cap := own_cap ho
  obtain ⟨n, hn'⟩ : ∃ n, n = tys.length := ⟨_, rfl⟩
  rw [← hn'] at hcap hn ⊢
  have HO := Lib.hid ho; have HE := Lib.hid he; have HF := Lib.hid hF; have HN := Lib.hid hn'
  have hmk : ∀ V, (Instr.makeMap 103 none).run Tryz.prog V = .ok (.map (some V.heap.size)) (V.alloc (.map #[] 0)) := fun V => by kernel_rfl
  have S0 := Lib.hid (chs_start w)
  clear ho he hF hn'
  go_enter_defers Tryz.func26, Tryz.ntmps26
  go_wp2_with fail
  go_loopw [11] (fun v11 wr => ∃ (i : Nat) (ts : List Tm.Wd), v11 = .int .i64 (i : Nat) ∧ i ≤ n ∧ Hid (Tm.chk [] tys = Tm.chk ts (tys.drop i)) ∧ Hid (ChS w wr ts) ∧ Hid (ts.length = i)) (fun v11 _ => n - (intOf v11).toNat)
  case atStart => exact ⟨0, [], rfl, Nat.zero_le _, Lib.hid rfl, S0, Lib.hid rfl⟩
  case round =>
    obtain ⟨i, ts, rfl, hi, HQ, HS, HTL⟩ := hrel
    clear S0
    by_cases hin : i < n
    · have q1 : decide ((i : Int) < (n : Int)) = true := decide_eq_true (by omega)
      have q2 : decide (i < n) = true := decide_eq_true hin
      have hii : (i : Int) < (n : Int) := by omega
      have HLT := Lib.hid hin
      obtain ⟨x, rfl⟩ : ∃ x, a = some x := by
        cases a with
        | none => have := HO.out.of_none.1; rw [← HN.out] at this; omega
        | some x => exact ⟨x, rfl⟩
      obtain ⟨gb, rfl⟩ : ∃ gb, x = ⟨gb, 0, none⟩ := ⟨x.block, HO.out.row.1⟩
      obtain ⟨t, r, hdr⟩ := Tm.drop_some tys i (by rw [← HN.out]; exact hin)
      have hmem : t ∈ tys := by
        have : t ∈ tys.drop i := by rw [hdr]; simp
        exact List.mem_of_mem_drop this
      obtain ⟨hft, hfx, hfs⟩ := HF.out t hmem
      obtain ⟨ga, capb, bs, g1, g2, g3, g4⟩ := Tm.EncT.ty HO.out HE.out hdr
      rw [hdr] at HQ
      have HNX := Lib.hid g4; have HFT := Lib.hid hft; have HFX := Lib.hid hfx; have HFS := Lib.hid hfs
      have hbel1 : Below w.heap.size w (wr.alloc (.cells #[.string (bstr t.name), .int .i64 (t.at_ : Nat), .slice ga (Tm.Its.len t.items) capb] 97)) := HS.out.bel.alloc HS.out.bel.size _
      have HOB := Lib.hid (g1.below hbel1 (Nat.le_refl _)); have HEB := Lib.hid (show Tm.EncI _ rb t.items bs from Tm.Enc.grown (below_grown hbel1 (some rb)) t.items bs g2)
      have hrow := g3.below HS.out.bel g3.lt
      have c0 := hrow.cell 0 (by simp); have c1 := hrow.cell 1 (by simp); have c2 := hrow.cell 2 (by simp)
      simp only [List.getElem_cons_zero, List.getElem_cons_succ, Nat.add_zero] at c0 c1 c2
      have HBX := Lib.hid (RowAt.new wr 97 #[.string (bstr t.name), .int .i64 (t.at_ : Nat), .slice ga (Tm.Its.len t.items) capb])
      have hnl : t.name.length ≤ 100000 := by have := Tm.name_len hft.1.2; omega
      have htm1 := HS.out.tm.keep (((Below.refl wr.heap.size wr).alloc (Nat.le_refl _) (.cells #[.string (bstr t.name), .int .i64 (t.at_ : Nat), .slice ga (Tm.Its.len t.items) capb] 97)).block _ HS.out.tm.lt)
      have hk9 := htm1.look Tryz.underlying9 Tryz.underlying103 Tryz.underlying3 (zeroInt _) t.name hnl
      have HI0 := Lib.hid (its_start HS.out (.cells #[.string (bstr t.name), .int .i64 (t.at_ : Nat), .slice ga (Tm.Its.len t.items) capb] 97))
      have HBEL1 := Lib.hid hbel1
      have HNL := Lib.hid hnl
      have hb31 := HI0.out.bel
      have c23 := (HBX.out.below hb31 HBX.out.lt).cell0 2 (by simp)
      simp only [List.getElem_cons_zero, List.getElem_cons_succ] at c23
      clear g1 g2 g3 g4 hrow hdr hmem hft hfx hfs hbel1 hnl htm1 hb31
      cases hin9 : ts.contains t.name with
      | true =>
        simp only [hin9, if_true] at hk9
        have HIN := Lib.hid hin9
        clear hin9 c23
        go_wp2_with fail
        refine (fail_any 9 t.at_ _).mono ?_
        rintro e w9 ⟨rfl, g1, g2⟩
        obtain ⟨V1, hV1⟩ : ∃ V1, V1 = wr.alloc (.cells #[.string (bstr t.name), .int .i64 (t.at_ : Nat), .slice ga (Tm.Its.len t.items) capb] 97) := ⟨_, rfl⟩
        rw [← hV1] at g1 g2 ⊢ HBEL1
        have hbx1 : RowAt V1 w.heap.size 0 30 [.nilIface] := by rw [hV1]; exact HS.out.box.alloc _
        obtain ⟨g, hg⟩ : ∃ g, g = V1.heap.size := ⟨_, rfl⟩
        rw [← hg] at g1 ⊢
        clear hV1 hg
        have hbox3 := hbx1.below g2 hbx1.lt
        have hc3 := hbox3.cell0 0 (by simp)
        have hf3 := hbox3.frozen 0 (by simp)
        simp only [List.getElem_cons_zero] at hc3
        have hl3 := hbox3.lt
        have HROW := Lib.hid g1
        have HBX3 := Lib.hid hbox3
        have HB3 := Lib.hid (HBEL1.out.trans (g2.mono HBEL1.out.size))
        have HEQ := Lib.hid (Tm.chk_twice HQ.out HIN.out : Tm.chk [] tys = some 9)
        clear hbox3
        go_wp2_with fail
        refine leaves_cons (f := 56) (args := #[.pointer (some ⟨w.heap.size, 0, none⟩)]) (by simp) (by simp [go_sem]) ?_
        refine (catchT_thrown w.heap.size .nilIface g [] _ hc3 hf3 hl3).mono ?_
        rintro e u' wz ⟨rfl, rfl, o, rfl⟩
        have hc5 : (w9.setCell ⟨w.heap.size, 0, none⟩ (.iface 120 (.pointer (some ⟨g, 0, none⟩)))).cell? ⟨w.heap.size, 0, none⟩ = some (.iface 120 (.pointer (some ⟨g, 0, none⟩))) := World.cell?_setCell_same' _ _ _ (by rw [hc3]; rfl)
        have hb6 := (Below.refl (w9.setCell ⟨w.heap.size, 0, none⟩ (.iface 120 (.pointer (some ⟨g, 0, none⟩)))).heap.size (w9.setCell ⟨w.heap.size, 0, none⟩ (.iface 120 (.pointer (some ⟨g, 0, none⟩))))).alloc (Nat.le_refl _) o
        have hc6 : ((w9.setCell ⟨w.heap.size, 0, none⟩ (.iface 120 (.pointer (some ⟨g, 0, none⟩)))).alloc o).cell? ⟨w.heap.size, 0, none⟩ = some (.iface 120 (.pointer (some ⟨g, 0, none⟩))) := (hb6.cell (p := ⟨w.heap.size, 0, none⟩) (by simpa using hl3)).trans hc5
        have hgne : g ≠ w.heap.size := by
          intro e
          have := (e ▸ HROW.out : RowAt w9 w.heap.size 0 122 _).ty HBX3.out
          exact absurd this (by decide)
        have hrow6 := ((HROW.out.far (p := ⟨w.heap.size, 0, none⟩) hgne (.iface 120 (.pointer (some ⟨g, 0, none⟩)))).alloc o)
        have hbel : Below w.heap.size w ((w9.setCell ⟨w.heap.size, 0, none⟩ (.iface 120 (.pointer (some ⟨g, 0, none⟩)))).alloc o) := (HB3.out.setCell (p := ⟨w.heap.size, 0, none⟩) (Nat.le_refl _) _).alloc (by simpa using HB3.out.size) o
        simp [Leaves, settle, results, Tryz.results26, go_sem, hc6]
        refine ⟨hbel, ?_⟩
        rw [HEQ.out]
        exact ⟨g, _, rfl, hrow6⟩
      | false =>
        simp only [hin9, Bool.false_eq_true, if_false] at hk9
        have HIN := Lib.hid hin9
        clear hin9
        have HIT := Lib.hid (items_its t.items _ _ rb capb _ _ _ 0 ga none bs ts [] [] ⟨HOB.out, HEB.out, HI0.out.bel⟩ HI0.out (by have := HFS.out; simp; omega) (by have := HFS.out; simp; omega) (Nat.le_trans (Tm.len_sz t.items) HFS.out) HFT.out.2 HFX.out)
        unfold ItemsOut thrownT at HIT
        go_wp2_with fail
        refine HIT.out.mono ?_
        intro e w4 hp4
        have HCI := Lib.hid (HQ.out.trans (Tm.chk_items ts t r HIN.out))
        cases hit : Tm.itemsE ts t.items [] [] with
        | bad en =>
          rw [hit] at hp4
          obtain ⟨hb4, g, p, rfl, g1⟩ := hp4
          have HH := Lib.hid hit
          clear hit HIT hk9 c0 c1 c2 c23
          have hbox3 := ((HS.out.box.alloc _).below hb4 (HS.out.box.alloc _).lt)
          have hc3 := hbox3.cell0 0 (by simp)
          have hf3 := hbox3.frozen 0 (by simp)
          simp only [List.getElem_cons_zero] at hc3
          have hl3 := hbox3.lt
          have HROW := Lib.hid g1
          have HBX3 := Lib.hid hbox3
          have HB3 := Lib.hid (HBEL1.out.trans (hb4.mono HBEL1.out.size))
          have HEQ := Lib.hid (HCI.out.trans (by rw [HH.out]) : Tm.chk [] tys = some en)
          clear hbox3
          go_wp2_with fail
          refine leaves_cons (f := 56) (args := #[.pointer (some ⟨w.heap.size, 0, none⟩)]) (by simp) (by simp [go_sem]) ?_
          refine (catchT_thrown w.heap.size .nilIface g [] _ hc3 hf3 hl3).mono ?_
          rintro e u' wz ⟨rfl, rfl, o, rfl⟩
          have hc5 : (w4.setCell ⟨w.heap.size, 0, none⟩ (.iface 120 (.pointer (some ⟨g, 0, none⟩)))).cell? ⟨w.heap.size, 0, none⟩ = some (.iface 120 (.pointer (some ⟨g, 0, none⟩))) := World.cell?_setCell_same' _ _ _ (by rw [hc3]; rfl)
          have hb6 := (Below.refl (w4.setCell ⟨w.heap.size, 0, none⟩ (.iface 120 (.pointer (some ⟨g, 0, none⟩)))).heap.size (w4.setCell ⟨w.heap.size, 0, none⟩ (.iface 120 (.pointer (some ⟨g, 0, none⟩))))).alloc (Nat.le_refl _) o
          have hc6 : ((w4.setCell ⟨w.heap.size, 0, none⟩ (.iface 120 (.pointer (some ⟨g, 0, none⟩)))).alloc o).cell? ⟨w.heap.size, 0, none⟩ = some (.iface 120 (.pointer (some ⟨g, 0, none⟩))) := (hb6.cell (p := ⟨w.heap.size, 0, none⟩) (by simpa using hl3)).trans hc5
          have hgne : g ≠ w.heap.size := by
            intro e
            have := (e ▸ HROW.out : RowAt w4 w.heap.size 0 122 _).ty HBX3.out
            exact absurd this (by decide)
          have hrow6 := ((HROW.out.far (p := ⟨w.heap.size, 0, none⟩) hgne (.iface 120 (.pointer (some ⟨g, 0, none⟩)))).alloc o)
          have hbel : Below w.heap.size w ((w4.setCell ⟨w.heap.size, 0, none⟩ (.iface 120 (.pointer (some ⟨g, 0, none⟩)))).alloc o) := (HB3.out.setCell (p := ⟨w.heap.size, 0, none⟩) (Nat.le_refl _) _).alloc (by simpa using HB3.out.size) o
          simp [Leaves, settle, results, Tryz.results26, go_sem, hc6]
          refine ⟨hbel, ?_⟩
          rw [HEQ.out]
          exact ⟨g, _, rfl, hrow6⟩
        | ok ns4 s4 =>
          rw [hit] at hp4
          obtain ⟨rfl, sa4, sc4, hs4⟩ := hp4
          have HH := Lib.hid hit
          have S4 := Lib.hid hs4
          have d0 := (HBX.out.below hs4.bel HBX.out.lt).cell0 0 (by simp)
          simp only [List.getElem_cons_zero] at d0
          clear hit HIT hk9 c0 c1 c2 c23 hs4
          go_wp2_with (refine wpList_storeN w4 rfl _ _ _ 103 rfl 9 3 Tryz.underlying103 Tryz.underlying9 Tryz.underlying3 (w.heap.size + 1) ts.length ts rfl S4.out.tm (by have := HTL.out; show ts.length < 9223372036854775807; omega) t.name HNL.out rfl rfl ?_; intro w5 hm5 hg5)
          have S5 := Lib.hid (HS.out.done S4.out hm5 hg5)
          have HQ5 := Lib.hid (show Tm.chk [] tys = Tm.chk (t.name :: ts) (tys.drop (i + 1)) by rw [HCI.out, HH.out, HNX.out])
          clear hm5 hg5 d0
          go_wp2_with fail
          go_roundw
          case rel => exact ⟨i + 1, t.name :: ts, by go_num, by have := HLT.out; omega, HQ5, S5, Lib.hid (by rw [List.length_cons, HTL.out])⟩
          case measure => simp [intOf]; have := HLT.out; omega
    · obtain rfl : i = n := by omega
      have q1 : decide ((i : Int) < (i : Int)) = false := by simp
      have q2 : decide (i < i) = false := by simp
      have HEQ := Lib.hid (show Tm.chk [] tys = none by rw [HQ.out, HN.out, List.drop_length]; rfl)
      have hc3 := HS.out.box.cell0 0 (by simp)
      have hf3 := HS.out.box.frozen 0 (by simp)
      simp only [List.getElem_cons_zero] at hc3
      have hc4 : (wr.setCell ⟨w.heap.size, 0, none⟩ .nilIface).cell? ⟨w.heap.size, 0, none⟩ = some .nilIface := World.cell?_setCell_same' _ _ _ (by rw [hc3]; rfl)
      go_wp2_with fail
      refine leaves_cons (f := 56) (args := #[.pointer (some ⟨w.heap.size, 0, none⟩)]) (by simp) (by simp [go_sem]) ?_
      refine (catchT_idle w.heap.size _).mono ?_
      rintro e u' w5 ⟨rfl, rfl, rfl⟩
      simp [Leaves, settle, results, Tryz.results26, go_sem, hc4]
      refine ⟨HS.out.bel.setCell (p := ⟨w.heap.size, 0, none⟩) (Nat.le_refl _) _, ?_⟩
      rw [HEQ.out]
end Go.Proofs.YtlomecfhobehnaaGreatDoor
end
section
/- How long what is written is; how many names there are. -/
namespace Go.Proofs.YtlomecfhobehnaaGreatDoor
open Go.RowKit
set_option linter.unusedVariables false
set_option linter.unusedSimpArgs false
open Rd
namespace Tm
theorem names_nodes : ∀ x : Ex.X, (namesX x).length ≤ nodes x
  | .num _ _ => by simp [namesX, nodes]
  | .name _ _ => by simp [namesX, nodes]
  | .bin _ _ l r => by
    have h1 := names_nodes l; have h2 := names_nodes r
    simp only [namesX, nodes, List.length_append]
    omega
variable {E d : Nat}
theorem parT_len {T R : List Rd.Tok} {x : Ex.X} (h : ParT E T x R) (hw : Wordy T) : (prX x).length + 30 * R.length ≤ 30 * T.length ∧ (namesX x).length + R.length ≤ T.length := by
  have h1 := nodes_read h x R rfl
  simp only [Nat.add_zero] at h1
  have h2 := pr_length x (h.fine hw).1
  have h3 := names_nodes x
  exact ⟨by show (Ex.pr Num.dec x).length + _ ≤ _; omega, by omega⟩
theorem rule_len {r : Rl} (h : FineR r) : (prTail none r).length ≤ 34 := by
  cases r with
  | none => simp [prTail]
  | size f => have := name_len h.2; simp [prTail, wSize]; omega
  | count f => have := name_len h.2; simp [prTail, wCount]; omega
  | check f l =>
    have h1 := name_len h.1.2; have h2 := name_len h.2.2
    by_cases hlf : l = f
    · subst hlf; simp [prTail, wCheck]; omega
    · simp [prTail, hlf, wCheck]; omega
theorem kndW_len {k : Knd} (h : FineK k) : (kndW k).length ≤ 12 := by
  cases k with
  | scalar w => have := kind_len h; simp only [kndW]; omega
  | bytes => decide
  | struct t => exact name_len h.2
theorem hd_len {T R : List Rd.Tok} {a : Hd} (h : HdP E T a R) (hw : Wordy T) (hd : d ≤ 8) : (prH d a).length + 64 * R.length ≤ 64 * T.length ∧ (namesO a.cnt).length + R.length ≤ T.length ∧ R.length + 1 ≤ T.length := by
  have hf := h.fine hw
  have hk := kndW_len hf.1
  have hn := name_len hf.2.1.2
  have hlen : (prH d a).length = 2 * d + (kndW a.k).length + 1 + a.name.length + (prTail a.cnt a.rule).length + 2 := by
    unfold prH pad
    simp only [List.length_append, List.length_cons, List.length_nil, List.length_replicate]
    omega
  rw [hlen]
  cases h with
  | @mk t n s T R k c r h1 h2 h3 h4 =>
    simp only [] at hk hn hf ⊢
    cases h3 with
    | cnt hc hb =>
      cases hc with
      | no h5 =>
        have := rule_len (r := .none) trivial
        simp only [List.length_cons, namesO, List.length_nil] at *
        omega
      | @yes o u T' _ x h5 h6 h7 =>
        have hw' : Wordy T' := hw.suf ((List.suffix_cons _ _).trans ((List.suffix_cons _ _).trans (List.suffix_cons _ _)))
        obtain ⟨g1, g2⟩ := parT_len h6 hw'
        have g3 : (prTail (some x) .none).length = (prX x).length + 2 := by simp [prTail]
        rw [g3]
        simp only [List.length_cons, namesO] at *
        omega
    | @rule w o T' _ _ h5 h6 =>
      have h8 := h6.suf.length_le
      have h7 := rule_len hf.2.2.2.1
      simp only [List.length_cons, namesO, List.length_nil] at *
      omega
theorem blk_len {n : Nat} {T R : List Rd.Tok} {l : Its} (h : Blk E d n T l R) : Wordy T → d ≤ 8 → T.length ≤ 100000 → (prI d l).length + 64 * R.length ≤ 64 * T.length ∧ l.sz + R.length ≤ T.length ∧ FewX l := by
  induction h with
  | fin h1 =>
    intro _ _ _
    simp only [prI, Its.sz, FewX, List.length_nil, List.length_cons]
    exact ⟨by omega, by omega, trivial⟩
  | @item d n T R1 R a l h1 h2 h3 ih =>
    intro hw hd hT
    obtain ⟨g1, g2, g3⟩ := hd_len h2 hw hd
    obtain ⟨i1, i2, i3⟩ := ih (hw.suf h2.suf.1) hd (by omega)
    simp only [prI, Its.sz, FewX, List.length_append]
    exact ⟨by omega, by omega, by omega, i3⟩
  | @when d n t b T T2 R1 R c body l h1 h2 h3 h4 h5 h6 h7 ih1 ih2 =>
    intro hw hd hT
    have hw1 := hw.suf (List.suffix_cons t T)
    obtain ⟨g1, g2⟩ := parT_len h3 hw1
    have hw2 : Wordy T2 := (hw1.suf h3.suf.1).suf (List.suffix_cons _ _)
    simp only [List.length_cons] at hT g1 g2 ⊢
    obtain ⟨i1, i2, i3⟩ := ih1 hw2 h5 (by omega)
    have hs := h6.suf
    obtain ⟨j1, j2, j3⟩ := ih2 (hw2.suf hs.1) hd (by omega)
    have hww : wWhen.length = 4 := rfl
    refine ⟨?_, ?_, by omega, i3, j3⟩
    · unfold prI pad
      simp only [List.length_append, List.length_cons, List.length_nil, List.length_replicate]
      omega
    · simp only [Its.sz]; omega
theorem tys_len {n : Nat} {T : List Rd.Tok} {l : List Ty} (h : Tys E n T l) : Wordy T → T.length ≤ 100000 → (prTs l).length ≤ 64 * T.length ∧ ∀ t ∈ l, FewX t.items ∧ t.items.sz ≤ 100000 := by
  induction h with
  | fin => intro _ _; exact ⟨by simp [prTs], fun t ht => by cases ht⟩
  | @one n t m b T R l r h1 h2 h3 h4 h5 h6 ih =>
    intro hw hT
    have hw3 : Wordy T := hw.suf ((List.suffix_cons _ _).trans ((List.suffix_cons _ _).trans (List.suffix_cons _ _)))
    simp only [List.length_cons] at hT ⊢
    obtain ⟨g1, g2, g3⟩ := blk_len h5 hw3 (by omega) (by omega)
    have hs := h5.suf
    obtain ⟨i1, i2⟩ := ih (hw3.suf hs.1) (by omega)
    have hm := name_len h3
    have hww : wStruct.length = 6 := rfl
    refine ⟨?_, fun t' ht' => ?_⟩
    · have hpl : (prTs (⟨m.1, m.2, l⟩ :: r)).length = (prT ⟨m.1, m.2, l⟩).length + (prTs r).length := by unfold prTs; rw [List.flatMap_cons, List.length_append]
      rw [hpl]
      unfold prT
      simp only [List.length_append, List.length_cons, List.length_nil]
      omega
    · rcases List.mem_cons.1 ht' with rfl | ht'
      · exact ⟨g3, by simp only []; omega⟩
      · exact i2 t' ht'
end Tm
end Go.Proofs.YtlomecfhobehnaaGreatDoor
end
section
/- tmpl.Parse, whatever the text. -/
namespace Go.Proofs.YtlomecfhobehnaaGreatDoor
open Go.RowKit
set_option linter.unusedVariables false
set_option linter.unusedSimpArgs false
open Rd
set_option maxRecDepth 100000 in
set_option maxHeartbeats 1000000 in
theorem TParse_long (s : List UInt8) (w : World) (hs : 3000 < s.length) (hs2 : s.length ≤ 1000000) :
    Calls Tryz.prog 25 #[.string (bstr s)] w fun e w' => e = .returned (.tuple #[.slice none 0 0, .iface 48 (.int .i64 4)]) ∧ Below w.heap.size w w' := by
  have HL := Lib.hid (fun w => LexRead_long s w hs hs2)
  clear hs hs2
  go_enter_defers Tryz.func25, Tryz.ntmps25
  go_wp2_with fail
  refine (HL.out _).mono ?_
  rintro e w1 ⟨rfl, rfl⟩
  go_wp2_with fail
  go_region
  all_goals
    go_wp2_with fail
    simp [bodyPostD, Leaves, settle, results, Tryz.results25, go_sem]
    exact ((Below.refl _ w).alloc (Nat.le_refl _) _).drew
set_option maxRecDepth 100000 in
set_option maxHeartbeats 1000000 in
theorem TParse_lexbad (s : List UInt8) (w : World) (hs : s.length ≤ 3000) (hm : MarksAt w) (hn : Lex.lexA s 0 = none) :
    Calls Tryz.prog 25 #[.string (bstr s)] w fun e w' => (∃ g, e = .returned (.tuple #[.slice none 0 0, .iface 120 (.pointer (some ⟨g, 0, none⟩))])) ∧ Below w.heap.size w w' := by
  have HL := Lib.hid (LexRead_bad s (w.alloc (.cells #[.nilIface] 30)) hs (hm.below ((Below.refl _ w).alloc (Nat.le_refl _) _) (Nat.le_refl _)) hn)
  clear hs hm hn
  go_enter_defers Tryz.func25, Tryz.ntmps25
  go_wp2_with fail
  refine HL.out.mono ?_
  rintro e w1 ⟨⟨g, rfl⟩, hb⟩
  have hbox : w1.cell? ⟨w.heap.size, 0, none⟩ = some .nilIface := (hb.cell (p := ⟨w.heap.size, 0, none⟩) (by simp)).trans (by simp)
  have hfz : w1.frozen? ⟨w.heap.size, 0, none⟩ = false := (hb.frozen (p := ⟨w.heap.size, 0, none⟩) (by simp)).trans (by simp)
  have hbb : Below w.heap.size w w1 := ((Below.refl _ w).alloc (Nat.le_refl _) _).trans (hb.mono (by simp))
  have HB := Lib.hid hbb
  have hc1 : (w1.setCell ⟨w.heap.size, 0, none⟩ (.iface 120 (.pointer (some ⟨g, 0, none⟩)))).cell? ⟨w.heap.size, 0, none⟩ = some (.iface 120 (.pointer (some ⟨g, 0, none⟩))) := World.cell?_setCell_same' _ _ _ (by rw [hbox]; rfl)
  have hc2 : ((w1.setCell ⟨w.heap.size, 0, none⟩ (.iface 120 (.pointer (some ⟨g, 0, none⟩)))).setCell ⟨w.heap.size, 0, none⟩ (.iface 120 (.pointer (some ⟨g, 0, none⟩)))).cell? ⟨w.heap.size, 0, none⟩ = some (.iface 120 (.pointer (some ⟨g, 0, none⟩))) := World.cell?_setCell_same' _ _ _ (by rw [hc1]; rfl)
  clear hb hbb
  go_wp2_with fail
  go_region
  all_goals
    go_wp2_with fail
    simp [bodyPostD, Leaves, settle, results, Tryz.results25, go_sem, hc2]
    exact ((HB.out.setCell (p := ⟨w.heap.size, 0, none⟩) (Nat.le_refl _) _).setCell (p := ⟨w.heap.size, 0, none⟩) (Nat.le_refl _) _).drew
theorem toks_lex {s : List UInt8} {T : List Rd.Tok} (hs : s.length ≤ 3000) (h : Lex.lexA s 0 = some T) : Toks T ∧ Tm.Wordy T ∧ T.length ≤ s.length := by
  have hw := Ex.words s.length s 0 T (Nat.le_refl _) h
  exact ⟨fun t ht => ⟨(hw t ht).1, few_toks hs h t ht⟩, fun t ht => hw t ht, (toks_le s.length s 0 T (Nat.le_refl _) h).1⟩
/-- a text as structs -/
def ReadT (s : List UInt8) (tys : List Tm.Ty) : Prop := ∃ T, Lex.lexA s 0 = some T ∧ Tm.Tys s.length 0 T tys
def TPOut (w : World) (s : List UInt8) (e : Ending) (w' : World) : Prop :=
  Below w.heap.size w w' ∧ ((∃ tys a cap vs, ReadT s tys ∧ e = .returned (.tuple #[.slice a (List.length tys) cap, .nilIface]) ∧ Owns w' w.heap.size 97 3 a (List.length tys) cap vs ∧ Tm.EncT w' w.heap.size tys vs) ∨ ((∀ tys, ¬ ReadT s tys) ∧ ∃ g : Nat, e = .returned (.tuple #[.slice none 0 0, .iface 120 (.pointer (some ⟨g, 0, none⟩))])))
theorem TP_any (s : List UInt8) (w : World) (hs : s.length ≤ 3000) (hB : Base w) : Calls Tryz.prog 25 #[.string (bstr s)] w (TPOut w s) := by
  cases h : Lex.lexA s 0 with
  | none =>
    refine (TParse_lexbad s w hs hB.mks h).mono ?_
    rintro e w' ⟨⟨g, h1⟩, h2⟩
    exact ⟨h2, .inr ⟨fun tys ⟨T, h3, _⟩ => (by rw [h] at h3; cases h3), g, h1⟩⟩
  | some T =>
    refine (TParse_any s T w hs hB.mks hB.env h (toks_lex hs h).1).mono ?_
    rintro e w' ⟨h1, ⟨tys, a, cap, vs, h2, h3, h4, h5⟩ | ⟨h2, g, n, p, h3, h4⟩⟩
    · exact ⟨h1, .inl ⟨tys, a, cap, vs, ⟨T, h, h2⟩, h3, h4, h5⟩⟩
    · exact ⟨h1, .inr ⟨fun tys ⟨T', h5, h6⟩ => by rw [h] at h5; cases h5; exact h2 tys h6, g, h3⟩⟩
theorem ReadT.det {s : List UInt8} {l m : List Tm.Ty} (h : ReadT s l) (h' : ReadT s m) : l = m := by
  obtain ⟨T, h1, h2⟩ := h
  obtain ⟨T', h3, h4⟩ := h'
  rw [h1] at h3
  cases h3
  exact h2.det m h4
end Go.Proofs.YtlomecfhobehnaaGreatDoor
end
section
/- The template 'box' of the laws. -/
namespace Go.Proofs.YtlomecfhobehnaaGreatDoor
set_option linter.unusedVariables false
set_option linter.unusedSimpArgs false
namespace Tm
open Ex
def boxTy : List Ty := [
  ⟨[112, 97, 105, 114], 0, .cons ⟨0, .scalar [117, 56], [110], none, .size [115]⟩ (.cons ⟨0, .bytes, [115], some (.name 0 [110]), .none⟩ .nil)⟩,
  ⟨[98, 111, 120], 0, .cons ⟨0, .scalar [117, 49, 54, 98, 101], [107, 105, 110, 100], none, .none⟩ (.cons ⟨0, .scalar [117, 56], [109, 97, 110, 121], none, .count [108]⟩ (.cons ⟨0, .struct [112, 97, 105, 114], [108], some (.name 0 [109, 97, 110, 121]), .none⟩
    (.when 0 (.bin 0 [61, 61] (.name 0 [107, 105, 110, 100]) (.num 0 1)) (.cons ⟨0, .scalar [105, 56], [109, 111, 114, 101], none, .none⟩ .nil) (.cons ⟨0, .scalar [117, 51, 50, 108, 101], [115, 117, 109], none, .check [107, 105, 110, 100] [108]⟩ .nil))))⟩]
theorem box_chk : chk [] boxTy = none := by decide +kernel
theorem nm_ok {w : Wd} (h : w ≠ [] ∧ (∀ c ∈ w, Lex.word c = true) ∧ nameB w = true) : NameOk w := ⟨⟨h.1, h.2.1⟩, h.2.2⟩
theorem box_names : ∀ w ∈ ([[112, 97, 105, 114], [110], [115], [98, 111, 120], [107, 105, 110, 100], [109, 97, 110, 121], [108], [109, 111, 114, 101], [115, 117, 109]] : List Wd), w ≠ [] ∧ (∀ c ∈ w, Lex.word c = true) ∧ nameB w = true := by decide +kernel
theorem fineX_name (s : Wd) (hs : s ≠ [] ∧ (∀ c ∈ s, Lex.word c = true) ∧ s.length ≤ 12 ∧ ∃ c r, s = c :: r ∧ Lex.letter c.toNat = true) : FineX (.name 0 s) := by
  obtain ⟨h1, h2, h3, c, r, h4, h5⟩ := hs
  exact ⟨⟨h1, h3, h2, c, r, h4, h5⟩, by unfold deepAt; omega⟩
theorem nk (w : Wd) (h : w ∈ ([[112, 97, 105, 114], [110], [115], [98, 111, 120], [107, 105, 110, 100], [109, 97, 110, 121], [108], [109, 111, 114, 101], [115, 117, 109]] : List Wd)) : NameOk w := nm_ok (box_names w h)
theorem fx_n : FineX (.name 0 [110]) := fineX_name _ ⟨by decide, by decide, by decide, 110, [], rfl, by decide⟩
theorem fx_many : FineX (.name 0 [109, 97, 110, 121]) := fineX_name _ ⟨by decide, by decide, by decide, 109, _, rfl, by decide⟩
theorem fx_cond : FineX (.bin 0 [61, 61] (.name 0 [107, 105, 110, 100]) (.num 0 1)) := by
  refine ⟨⟨by decide, (fineX_name [107, 105, 110, 100] ⟨by decide, by decide, by decide, 107, _, rfl, by decide⟩).1, Ex.num_ok (Num.dec 1) 1 (Num.numOf_dec 1 (by decide))⟩, by decide⟩
theorem fk (w : Wd) (h : (kindOf w).isSome = true) : FineK (.scalar w) := h
theorem box_fine : ∀ t ∈ boxTy, FineT t := by
  intro t ht
  unfold boxTy at ht
  rcases List.mem_cons.1 ht with rfl | ht
  · refine ⟨nk _ (by simp), ⟨fk _ (by decide), nk _ (by simp), fun c hc => (by cases hc), nk _ (by simp), fun h => (by cases h), fun _ => ⟨_, rfl⟩⟩, ⟨trivial, nk _ (by simp), fun c hc => ?_, trivial, fun _ h => (by cases h), fun h => absurd rfl h⟩, trivial⟩
    cases hc; exact ⟨fx_n, rfl⟩
  · rcases List.mem_cons.1 ht with rfl | ht
    · refine ⟨nk _ (by simp), ⟨fk _ (by decide), nk _ (by simp), fun c hc => (by cases hc), trivial, fun h => (by cases h), fun h => absurd rfl h⟩, ⟨fk _ (by decide), nk _ (by simp), fun c hc => (by cases hc), nk _ (by simp), fun h => (by cases h), fun _ => ⟨_, rfl⟩⟩, ⟨nk _ (by simp), nk _ (by simp), fun c hc => ?_, trivial, fun h => (by cases h), fun h => absurd rfl h⟩, fx_cond, ⟨⟨fk _ (by decide), nk _ (by simp), fun c hc => (by cases hc), trivial, fun h => (by cases h), fun h => absurd rfl h⟩, trivial⟩, ⟨fk _ (by decide), nk _ (by simp), fun c hc => (by cases hc), ⟨nk _ (by simp), nk _ (by simp)⟩, fun h => (by cases h), fun _ => ⟨_, rfl⟩⟩, trivial⟩
      cases hc; exact ⟨fx_many, rfl⟩
    · cases ht
theorem box_fit : ∀ t ∈ boxTy, FineT t ∧ Fit 1 0 t.items := by
  intro t ht
  refine ⟨box_fine t ht, ?_⟩
  unfold boxTy at ht
  rcases List.mem_cons.1 ht with rfl | ht
  · simp [Fit]
  · rcases List.mem_cons.1 ht with rfl | ht
    · simp [Fit]
    · cases ht
def boxLit : Wd := [115, 116, 114, 117, 99, 116, 32, 112, 97, 105, 114, 32, 123, 10, 32, 32, 117, 56, 32, 110, 32, 61, 32, 115, 105, 122, 101, 32, 115, 59, 10, 32, 32, 98, 121, 116, 101, 115, 32, 115, 91, 110, 93, 59, 10, 125, 10, 115, 116, 114, 117, 99, 116, 32, 98, 111, 120, 32, 123, 10, 32, 32, 117, 49, 54, 98, 101, 32, 107, 105, 110, 100, 59, 10, 32, 32, 117, 56, 32, 109, 97, 110, 121, 32, 61, 32, 99, 111, 117, 110, 116, 32, 108, 59, 10, 32, 32, 112, 97, 105, 114, 32, 108, 91, 109, 97, 110, 121, 93, 59, 10, 32, 32, 119, 104, 101, 110, 32, 107, 105, 110, 100, 32, 61, 61, 32, 49, 32, 123, 10, 32, 32, 32, 32, 105, 56, 32, 109, 111, 114, 101, 59, 10, 32, 32, 125, 10, 32, 32, 117, 51, 50, 108, 101, 32, 115, 117, 109, 32, 61, 32, 99, 104, 101, 99, 107, 32, 107, 105, 110, 100, 32, 108, 59, 10, 125, 10]
theorem box_pr : prTs boxTy = [115, 116, 114, 117, 99, 116, 32, 112, 97, 105, 114, 32, 123, 10, 32, 32, 117, 56, 32, 110, 32, 61, 32, 115, 105, 122, 101, 32, 115, 59, 10, 32, 32, 98, 121, 116, 101, 115, 32, 115, 91, 110, 93, 59, 10, 125, 10, 115, 116, 114, 117, 99, 116, 32, 98, 111, 120, 32, 123, 10, 32, 32, 117, 49, 54, 98, 101, 32, 107, 105, 110, 100, 59, 10, 32, 32, 117, 56, 32, 109, 97, 110, 121, 32, 61, 32, 99, 111, 117, 110, 116, 32, 108, 59, 10, 32, 32, 112, 97, 105, 114, 32, 108, 91, 109, 97, 110, 121, 93, 59, 10, 32, 32, 119, 104, 101, 110, 32, 107, 105, 110, 100, 32, 61, 61, 32, 49, 32, 123, 10, 32, 32, 32, 32, 105, 56, 32, 109, 111, 114, 101, 59, 10, 32, 32, 125, 10, 32, 32, 117, 51, 50, 108, 101, 32, 115, 117, 109, 32, 61, 32, 99, 104, 101, 99, 107, 32, 107, 105, 110, 100, 32, 108, 59, 10, 125, 10] := by decide +kernel
theorem box_len : (prTs boxTy).length = 177 := by decide +kernel
/-- the tokens of the text are read -/
theorem box_read {T : List Tok} (h : Lex.lexA (prTs boxTy) 0 = some T) (E : Nat) : ∃ L, SameTs boxTy L ∧ Tys E 0 T L := by
  have h1 := texts_prTs boxTy box_fine
  unfold texts at h1
  rw [h] at h1
  have h2 : T.map Prod.fst = ptTs boxTy := by simpa using h1
  exact Tys.make (by decide) box_fit T h2
theorem box_lex : ∃ T, Lex.lexA (prTs boxTy) 0 = some T := by
  have h1 := texts_prTs boxTy box_fine
  unfold texts at h1
  cases h : Lex.lexA (prTs boxTy) 0 with
  | none => rw [h] at h1; cases h1
  | some T => exact ⟨T, rfl⟩
end Tm
end Go.Proofs.YtlomecfhobehnaaGreatDoor
end
