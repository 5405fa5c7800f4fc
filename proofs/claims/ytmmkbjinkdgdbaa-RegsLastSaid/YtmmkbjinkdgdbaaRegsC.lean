/- Contract of package regs: Cut; the fact kept. -/
import Derived.Test.YtmmkbjinkdgdbaaRegsB
import Derived.Laws.CopyOwn
import Derived.Deep.RegionLaw
namespace Go.Proofs.Ytmmkbjinkdgdbaa
open Go.RowKit Go.Maps
set_option linter.unusedVariables false
set_option linter.unusedSimpArgs false
theorem RegsAt.below {w w' : World} {B B' g n : Nat} {F : Nat → List UInt8} {cut : List ByteArray} (h : RegsAt w B g n F cut) (hb : Below B' w w') (hB : w.heap.size ≤ B') : RegsAt w' B g n F cut := by
  obtain ⟨h1, h2, mv, h3, h4⟩ := h
  refine ⟨h1, h2, mv, h3.below hb (Nat.lt_of_lt_of_le h3.row.lt hB), ?_⟩
  rcases h4 with h4 | ⟨b, h5, h6, h7, h8⟩
  · exact .inl h4
  · refine .inr ⟨b, h5, h6, h7, ?_⟩
    obtain ⟨D, ⟨es, clock, hb2, r⟩, r2⟩ := h8
    have hlt := (Array.getElem?_eq_some_iff.1 hb2).1
    exact ⟨D, ⟨es, clock, (hb.block b (Nat.lt_of_lt_of_le hlt hB)).trans hb2, r⟩, r2⟩
set_option maxRecDepth 100000 in
set_option maxHeartbeats 1000000 in
theorem Cut_ok (B g n : Nat) (F : Nat → List UInt8) (cut : List ByteArray) (c : Nat) (t : List UInt8) (w : World) (h : RegsAt w B g n F cut) (hc : c < 256) (hn : Regs.name c = true) (hBz : B ≤ w.heap.size)
    (hlen : (F (Regs.small c)).length + t.length ≤ 4000) (hroom : n ≤ 1000) :
    Calls Try.prog 18 #[.pointer (some ⟨g, 0, none⟩), .int .u8 (c : Int), .string (bstr t)] w fun e w' =>
      e = .returned .nilIface ∧ RegsAt w' B g (n + 2) (upd (upd F (Regs.small c) (Regs.text F c t)) 34 (Regs.text F c t)) (bstr t :: cut.take 8) ∧ Below B w w' := by
  have hP := Put_ok B g n F cut c t w h hc hn hBz hlen hroom
  have HP := Lib.hid hP; clear hP h hn hlen
  generalize upd (upd F (Regs.small c) (Regs.text F c t)) 34 (Regs.text F c t) = G at *
  go_enter Try.func18, Try.ntmps18
  go_wp2_with fail
  with_reducible refine HP.out.mono ?_
  rintro e w1 ⟨rfl, ⟨hl, hBg, mv, hW, hmv⟩, hb⟩
  have HMV := Lib.hid hmv; clear hmv
  have hglt := hW.row.lt
  have hbz1 : B ≤ w1.heap.size := Nat.le_trans hBz hb.size
  go_wp2_with fail
  go_still_tail 8, (by kernel_rfl)
  change wpList _ _ _ _ _ w1.drew
  have h8 : (cut.take 8).length = 8 := by rw [List.length_take]; omega
  have hsp : splice (mv :: cut.map Value.string) 2 ((cut.take 8).map Value.string) = mv :: (.string (cut.getD 0 ByteArray.empty)) :: (cut.take 8).map Value.string := by
    match cut, hl with
    | a0 :: rest, hl =>
      have h9 : rest.length = 8 := by simpa using hl
      simp [splice]
      omega
  have hcs : ∀ (j : Nat) (v : Value), ((cut.take 8).map Value.string)[j]? = some v → w1.drew.cell? ((⟨g, 1, none⟩ : Addr).add j) = some v := by
    intro j v hj
    have hj8 : j < 8 := by
      rcases Nat.lt_or_ge j 8 with h | h
      · exact h
      · rw [List.getElem?_eq_none (by rw [List.length_map, h8]; exact h)] at hj; cases hj
    have hadd : (⟨g, 1, none⟩ : Addr).add j = ⟨g, 1 + j, none⟩ := by unfold Addr.add; split <;> simp_all
    rw [hadd, Nat.add_comm 1 j]
    have := hW.row.drew.cell0 (j + 1) (by simp; omega)
    rw [this, ← hj, List.getElem_cons_succ, List.getElem_map, List.getElem?_map, List.getElem?_take, if_pos hj8, List.getElem?_eq_getElem (by omega)]
    rfl
  have hone : ∀ v ∈ (cut.take 8).map Value.string, v.oneCell' = true := by
    intro v hv
    obtain ⟨x, _, rfl⟩ := List.mem_map.1 hv
    rfl
  refine wpList_copy_own rfl (.tmp 18) (.tmp 22) 22 22 rfl 9 Try.underlying22 (by kernel_rfl) g 2 8 8 ⟨g, 1, none⟩ 8 9 rfl rfl (mv :: cut.map Value.string).toArray 30 hW.drew ((cut.take 8).map Value.string) (by rw [List.length_map, h8]; rfl) hcs (by simp [hl]) hone ?_
  have hW4 : Whole (w1.drew.setRow g ((mv :: cut.map Value.string).toArray.toList.take 2 ++ ((cut.take 8).map Value.string ++ (mv :: cut.map Value.string).toArray.toList.drop (2 + ((cut.take 8).map Value.string).length))).toArray) g 30 (mv :: (.string (cut.getD 0 ByteArray.empty)) :: (cut.take 8).map Value.string) := by
    have := setRow_heap w1.drew g _ ((mv :: cut.map Value.string).toArray.toList.take 2 ++ ((cut.take 8).map Value.string ++ (mv :: cut.map Value.string).toArray.toList.drop (2 + ((cut.take 8).map Value.string).length))).toArray 30 _ hW.drew
    unfold Whole
    rw [this, ← hsp]
    rfl
  have hgg : w1.drew.grownBy (w1.drew.setRow g ((mv :: cut.map Value.string).toArray.toList.take 2 ++ ((cut.take 8).map Value.string ++ (mv :: cut.map Value.string).toArray.toList.drop (2 + ((cut.take 8).map Value.string).length))).toArray) (some g) :=
    ⟨rfl, rfl, rfl, by simp [World.setRow], fun k _ hk => setRow_other _ _ _ _ (fun h => hk (by rw [h]))⟩
  generalize w1.drew.setRow g ((mv :: cut.map Value.string).toArray.toList.take 2 ++ ((cut.take 8).map Value.string ++ (mv :: cut.map Value.string).toArray.toList.drop (2 + ((cut.take 8).map Value.string).length))).toArray = w4 at *
  rw [show goInt ((cut.take 8).map Value.string).length = Value.int .i64 8 by rw [List.length_map, h8]; rfl]
  have hc1 := hW4.row.cell0 1 (by simp)
  have hf1 := hW4.row.frozen0 1 (by simp)
  simp only [List.getElem_cons_zero, List.getElem_cons_succ] at hc1
  have HW := Lib.hid hW4; clear hW4
  clear hcs hsp hone
  go_wp2_with fail
  go_ret
  have hg2 := grown_set hgg (p := ⟨g, 1, none⟩) rfl (.string (bstr t))
  refine ⟨rfl, ⟨by simp [h8], hBg, mv, ?_, ?_⟩, ?_⟩
  · exact HW.out.set 1 (.string (bstr t))
  · rcases HMV.out with h | ⟨b, h1, h2, h3, h4⟩
    · exact .inl h
    · exact .inr ⟨b, h1, h2, h3, h4.drew.kept hg2 (by simp; exact h2)⟩
  · exact (bdrewN hb 1).grown hg2 hbz1 fun k hk => by cases hk; exact hBg
end Go.Proofs.Ytmmkbjinkdgdbaa
