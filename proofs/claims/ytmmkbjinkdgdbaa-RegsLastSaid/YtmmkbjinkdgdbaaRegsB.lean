/- Contract of package regs: Put. -/
import Derived.Test.YtmmkbjinkdgdbaaRegsA
import Derived.WalkSpells
import Derived.RegionTactic
import Derived.ChangeAlike
import Derived.Deep.DeepCutAuto
namespace Go.Proofs.Ytmmkbjinkdgdbaa
open Go.RowKit Go.Maps
set_option linter.unusedVariables false
set_option linter.unusedSimpArgs false
/-- what is kept by a letter behind Put -/
def Regs.text (F : Nat → List UInt8) (c : Nat) (t : List UInt8) : List UInt8 := if Regs.great c then F (Regs.small c) ++ t else t
set_option maxRecDepth 100000 in
theorem Put_bad (a : Value) (c : Nat) (t : List UInt8) (w : World) (hc : c < 256) (hn : Regs.name c = false) :
    Calls Try.prog 21 #[a, .int .u8 (c : Int), .string (bstr t)] w fun e w' => e = .returned (.iface 101 (.int .i64 5)) ∧ w = w' := by
  have hN := fun w => Name_any c w hc
  have hS := fun w => small_any c w hc
  rw [hn] at hN
  generalize Regs.great c = gr at *
  generalize Regs.small c = s at *
  have HN := Lib.hid hN; clear hN
  have HS := Lib.hid hS; clear hS
  clear hn
  go_enter Try.func21, Try.ntmps21
  go_wp2_with fail
  refine (HS.out _).mono ?_
  rintro e w1 ⟨rfl, rfl⟩
  go_wp2_with fail
  refine (HN.out _).mono ?_
  rintro e w1 ⟨rfl, rfl⟩
  go_wp2_with fail
  go_ret
  exact ⟨rfl, rfl⟩
theorem cell_grown {w w' : World} {b g o : Nat} {v : Value} (hg : w.grownBy w' (some b)) (hne : b ≠ g) (hlt : g < w.heap.size) (h : w.cell? ⟨g, o, none⟩ = some v) : w'.cell? ⟨g, o, none⟩ = some v := by
  rw [World.cell?_of_block (w := w) (w' := w') (a := ⟨g, o, none⟩) (hg.block g hlt (by simp; omega))]
  exact h
set_option maxRecDepth 100000 in
set_option maxHeartbeats 1000000 in
theorem Put_ok (B g n : Nat) (F : Nat → List UInt8) (cut : List ByteArray) (c : Nat) (t : List UInt8) (w : World) (h : RegsAt w B g n F cut) (hc : c < 256) (hn : Regs.name c = true) (hBz : B ≤ w.heap.size)
    (hlen : (F (Regs.small c)).length + t.length ≤ 4000) (hroom : n ≤ 1000) :
    Calls Try.prog 21 #[.pointer (some ⟨g, 0, none⟩), .int .u8 (c : Int), .string (bstr t)] w fun e w' =>
      e = .returned .nilIface ∧ RegsAt w' B g (n + 2) (upd (upd F (Regs.small c) (Regs.text F c t)) 34 (Regs.text F c t)) cut ∧ Below B w w' := by
  obtain ⟨hl, hB, mv, hW, hmv⟩ := h
  have hr := hW.row
  have hN := fun w => Name_any c w hc
  have hS := fun w => small_any c w hc
  have hs := Regs.small_lt c hc
  rw [hn] at hN
  have htx : Regs.text F c t = if Regs.great c then F (Regs.small c) ++ t else t := rfl
  have htl : (Regs.text F c t).length ≤ 4000 := by
    rw [htx]
    split
    · rw [List.length_append]; omega
    · omega
  generalize Regs.text F c t = tx at *
  generalize Regs.great c = gr at *
  generalize Regs.small c = s at *
  have HN := Lib.hid hN; clear hN
  have HS := Lib.hid hS; clear hS
  have hlook : (Instr.lookup 27 mv (.int .u8 (s : Int)) false).run Try.prog w = .ok (.string (bstr (F s))) w := by
    rcases hmv with ⟨rfl, rfl⟩ | ⟨b, rfl, _, _, hM⟩
    · exact look_none s hs w
    · exact hM.look Try.underlying27 Try.underlying5 Try.underlying9 (zeroStr w) s hs
  obtain ⟨ro, rfl⟩ : ∃ ro, mv = .map ro := by
    rcases hmv with ⟨h, _⟩ | ⟨b, h, _⟩
    · exact ⟨_, h⟩
    · exact ⟨_, h⟩
  obtain ⟨nb, hnb⟩ : ∃ nb : Bool, nb = ro.isNone := ⟨_, rfl⟩
  have hq : ∀ w : World, (binOp .eql 27 (.map ro) (.map none)).run Try.prog w = .ok (.bool nb) w := fun w => by
    rw [hnb]; exact run_eql_map_nil w _ _ _ ro Try.underlying27
  have HNB := Lib.hid hnb; clear hnb
  have hmm := @run_makeMap Try.prog
  have hcell := hr.cell0 0 (by simp)
  have hfro := hr.frozen0 0 (by simp)
  simp only [List.getElem_cons_zero] at hcell
  have hbig : ¬ 9223372036854775807 < (F s).length + t.length := by omega
  have HR := Lib.hid hW; clear hr hW
  have HMV := Lib.hid hmv; clear hmv
  clear hn
  go_enter Try.func21, Try.ntmps21
  cases gr
  all_goals
    simp only [if_true, if_false, Bool.false_eq_true] at htx
    subst htx
    go_wp2_with fail
    refine (HS.out _).mono ?_
    rintro e w1 ⟨rfl, rfl⟩
    go_wp2_with fail
    refine (HN.out _).mono ?_
    rintro e w1 ⟨rfl, rfl⟩
    go_upto_if 35 with fail
    go_cut [] (fun wr => ∃ b, b ≠ g ∧ B ≤ b ∧ Hid (Whole wr g 30 (.map (some b) :: cut.map Value.string)) ∧ Hid (MapS Try.prog 5 9 wr b n F) ∧ Hid (Below B w wr))
    case first =>
      have hmv := HMV.out
      have hnb := HNB.out
      rcases hmv with ⟨hro, hF⟩ | ⟨b, hro, hbg, hBb, hM⟩
      · obtain rfl : ro = none := by injection hro
        obtain rfl : nb = true := hnb
        clear hro
        have HF := Lib.hid hF; clear hF
        have hr2 := (HR.out.set 0 (.map (some w.heap.size))).alloc (.map #[] 0)
        simp only [List.set_cons_zero] at hr2
        have hglt := HR.out.row.lt
        have hM2 : MapS Try.prog 5 9 ((w.setCell ⟨g, 0, none⟩ (.map (some w.heap.size))).alloc (.map #[] 0)) w.heap.size n F := by
          have := MapS.made (P := Try.prog) (k := 5) (e := 9) (w.setCell ⟨g, 0, none⟩ (.map (some w.heap.size)))
          rw [World.size_setCell] at this
          rw [HF.out]
          exact this.mono (Nat.zero_le _)
        have hb2 : Below B w ((w.setCell ⟨g, 0, none⟩ (.map (some w.heap.size))).alloc (.map #[] 0)) := ((Below.refl B w).setCell hB _).alloc (by rw [World.size_setCell]; exact hBz) _
        have HA := Lib.hid hr2; clear hr2
        have HM2 := Lib.hid hM2; clear hM2
        have HB2 := Lib.hid hb2; clear hb2
        go_wp2_with fail
        go_meet
        exact ⟨w.heap.size, by omega, hBz, HA, HM2, HB2⟩
      · obtain rfl : ro = some b := by injection hro
        obtain rfl : nb = false := hnb
        clear hro
        go_wp2_with fail
        go_meet
        exact ⟨b, hbg, hBb, HR, Lib.hid hM, Lib.hid (Below.refl _ _)⟩
    case rest =>
      obtain ⟨b, hbg, hBb, HA, HM, HB⟩ := hcut
      clear hq hlook hcell hfro HR HMV HNB
      have hblt := HM.out.lt
      have hglt := HA.out.row.lt
      have hc0 := HA.out.row.cell0 0 (by simp)
      simp only [List.getElem_cons_zero] at hc0
      have htx9 : ∀ x : List UInt8, x.length ≤ 4000 → (bstr x).size ≤ maxLen := fun x hx => by rw [bstr_size]; unfold maxLen; omega
      obtain ⟨v0, st, w1, e1, g1, z1, hS1⟩ := HM.out.drew.steps Try.underlying27 Try.underlying5 Try.underlying9 zeroStr (by unfold maxLen; omega) s hs _ (htx9 _ htl)
      obtain ⟨w3, e2, hM2, g2, z2⟩ := hS1 w1 rfl
      obtain ⟨v1, st2, w4, e3, g3, z3, hS2⟩ := hM2.steps Try.underlying27 Try.underlying5 Try.underlying9 zeroStr (by unfold maxLen; omega) 34 (by decide) _ (htx9 _ htl)
      obtain ⟨w5, e4, hM3, g4, z4⟩ := hS2 w4 rfl
      have hgz : wc.drew.heap.size = wc.heap.size := rfl
      have k1 : w1.cell? ⟨g, 0, none⟩ = some (.map (some b)) := cell_grown g1 hbg hglt hc0
      have k3 : w3.cell? ⟨g, 0, none⟩ = some (.map (some b)) := cell_grown g2 hbg (by omega) k1
      have k4 : w4.cell? ⟨g, 0, none⟩ = some (.map (some b)) := cell_grown g3 hbg (by omega) k3
      rw [show ((34 : Nat) : Int) = 34 from rfl] at e3
      clear hS1 hS2
      have G1 := Lib.hid g1; clear g1
      have G2 := Lib.hid g2; clear g2
      have G3 := Lib.hid g3; clear g3
      have G4 := Lib.hid g4; clear g4
      have M3 := Lib.hid hM3; clear hM3 hM2
      clear hgz z1 z2 z3 z4 htx9
      go_wp2_with fail
      go_region
      go_wp2_with fail
      go_ret
      have hg : wc.drew.grownBy w5 (some b) := ((G1.out.trans G2.out).trans G3.out).trans G4.out
      have hrow := HA.out.drew.of_heap (hg.block g hglt (by simp; omega))
      refine ⟨rfl, ⟨hl, hB, _, hrow, .inr ⟨b, rfl, hbg, hBb, M3.out⟩⟩, ?_⟩
      exact (bdrewN HB.out 1).grown hg (Nat.le_trans hBz HB.out.size) fun k hk => by cases hk; exact hBb
end Go.Proofs.Ytmmkbjinkdgdbaa
