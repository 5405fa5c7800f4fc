/- Contracts of package undo, at numbers and at texts (printed by gen_undo.py). -/
import Derived.Test.YtlpockgofejogaaChecked
import Derived.Test.YtlpockgofejogaaPlainUndo
import Derived.Test.YtlpockgofejogaaOwnStep
import Derived.BigRegion
import Derived.Deep.RegionLaw
namespace Go.Proofs.Ytlpockgofejogaa
open Go.RowKit
set_option linter.unusedVariables false
set_option linter.unusedSimpArgs false
theorem infoInt : (Try.prog.info? 3).map (fun i => (i.zero, i.size, i.bytes)) = some (some (.int .i64 0), 1, 8) := by kernel_rfl
/-- a tree at block p: its states lie in block g -/
structure TreeAt (eP eT : TypeId) (B : Nat) (w : World) (p g cap : Nat) (E : List Undo.Ent) (now : Nat) : Prop where
  row : RowAt w p 0 eP [.slice (some ⟨g, 0, none⟩) E.length cap, .int .i64 (now : Nat)]
  own : Owns w B eT 3 (some ⟨g, 0, none⟩) E.length cap (Undo.cells E)
  ne : p ≠ g
  pB : B ≤ p
  nowlt : now < E.length
  up : Undo.Up (Undo.up E) E.length
  dn : Undo.Dn E
  few : E.length ≤ 200
/-- only two blocks are others than they were -/
structure Two (p g : Nat) (w w' : World) : Prop where
  os : w'.os = w.os
  tape : w'.tape = w.tape
  output : w'.output = w.output
  size : w.heap.size ≤ w'.heap.size
  block : ∀ k, k < w.heap.size → k ≠ p → k ≠ g → w'.heap[k]? = w.heap[k]?
section
variable {eP eT : TypeId} {B : Nat} {w w' w'' : World} {p g cap : Nat} {E : List Undo.Ent} {now : Nat}
theorem Two.refl (p g : Nat) (w : World) : Two p g w w := ⟨rfl, rfl, rfl, Nat.le_refl _, fun _ _ _ _ => rfl⟩
theorem Two.trans (h : Two p g w w') (k : Two p g w' w'') : Two p g w w'' :=
  ⟨k.os.trans h.os, k.tape.trans h.tape, k.output.trans h.output, Nat.le_trans h.size k.size, fun i h1 h2 h3 => (k.block i (Nat.lt_of_lt_of_le h1 h.size) h2 h3).trans (h.block i h1 h2 h3)⟩
theorem Two.setCell (h : Two p g w w') {a : Addr} (ha : a.block = p ∨ a.block = g) (u : Value) : Two p g w (w'.setCell a u) :=
  ⟨h.os, h.tape, h.output, by simpa using h.size, fun i h1 h2 h3 => (Below.heap_setCell w' a u i (by rcases ha with ha | ha <;> omega)).trans (h.block i h1 h2 h3)⟩
theorem Two.drew (h : Two p g w w') : Two p g w w'.drew := ⟨h.os, h.tape, h.output, h.size, h.block⟩
theorem Two.drewN (h : Two p g w w') (n : Nat) : Two p g w (w'.drewN n) := ⟨h.os, h.tape, h.output, h.size, h.block⟩
theorem Two.below (h : Two p g w w') (hp : B ≤ p) (hg : B ≤ g) (hB : B ≤ w.heap.size) : Below B w w' :=
  ⟨h.os, h.tape, h.output, h.size, fun k hk => h.block k (by omega) (by omega) (by omega)⟩
theorem TreeAt.lt (h : TreeAt eP eT B w p g cap E now) : p < w.heap.size := h.row.lt
theorem TreeAt.glt (h : TreeAt eP eT B w p g cap E now) : B ≤ g ∧ g < w.heap.size := h.own.lt
theorem TreeAt.keep (h : TreeAt eP eT B w p g cap E now) (hp : w'.heap[p]? = w.heap[p]?) (hg : w'.heap[g]? = w.heap[g]?) : TreeAt eP eT B w' p g cap E now :=
  { h with
    row := h.row.of_heap hp
    own := h.own.keep fun x hx => by cases hx; exact hg }
theorem TreeAt.below {B' : Nat} (h : TreeAt eP eT B w p g cap E now) (hb : Below B' w w') (hB : w.heap.size ≤ B') : TreeAt eP eT B w' p g cap E now :=
  h.keep (hb.block _ (Nat.lt_of_lt_of_le h.lt hB)) (hb.block _ (Nat.lt_of_lt_of_le h.glt.2 hB))
theorem TreeAt.drewN (h : TreeAt eP eT B w p g cap E now) (n : Nat) : TreeAt eP eT B (w.drewN n) p g cap E now := h.keep rfl rfl
theorem TreeAt.drew (h : TreeAt eP eT B w p g cap E now) : TreeAt eP eT B w.drew p g cap E now := h.keep rfl rfl
/-- which one is now -/
theorem TreeAt.setNow (h : TreeAt eP eT B w p g cap E now) (n : Nat) (hn : n < E.length) : TreeAt eP eT B (w.setCell ⟨p, 1, none⟩ (.int .i64 (n : Nat))) p g cap E n :=
  { h with
    row := h.row.set0 1 (by simp) _
    own := h.own.far (p := ⟨p, 1, none⟩) (fun x hx => by cases hx; exact fun e => h.ne e.symm) _
    nowlt := hn }
/-- which one is next -/
theorem TreeAt.setDn (h : TreeAt eP eT B w p g cap E now) (k d : Nat) (hk : k < E.length) (hd : d < E.length) : TreeAt eP eT B (w.setCell ⟨g, k * 3 + 2, none⟩ (.int .i64 (d : Nat))) p g cap (Undo.setDn E k (d : Nat)) now := by
  have h1 := h.own.set (k * 3 + 2) (by rw [Undo.cells_length]; omega) (.int .i64 (d : Nat))
  rw [Undo.cells_setDn _ _ _ hk] at h1
  have hl := Undo.setDn_length E k (d : Nat)
  exact { row := by rw [hl]; exact h.row.far (p := ⟨g, k * 3 + 2, none⟩) h.ne _
          own := by rw [hl]; exact h1
          ne := h.ne
          pB := h.pB
          nowlt := by rw [hl]; exact h.nowlt
          up := by rw [hl, Undo.up_setDn]; exact h.up
          dn := Undo.dn_set_ok E h.dn k d hd
          few := by rw [hl]; exact h.few }
theorem TreeAt.c0 (h : TreeAt eP eT B w p g cap E now) : w.cell? ⟨p, 0, none⟩ = some (.slice (some ⟨g, 0, none⟩) E.length cap) := h.row.cell0 0 (by simp)
theorem TreeAt.c1 (h : TreeAt eP eT B w p g cap E now) : w.cell? ⟨p, 1, none⟩ = some (.int .i64 (now : Nat)) := h.row.cell0 1 (by simp)
theorem TreeAt.f1 (h : TreeAt eP eT B w p g cap E now) : w.frozen? ⟨p, 1, none⟩ = false := h.row.frozen0 1 (by simp)
theorem TreeAt.f0 (h : TreeAt eP eT B w p g cap E now) : w.frozen? ⟨p, 0, none⟩ = false := h.row.frozen0 0 (by simp)
theorem TreeAt.cells (h : TreeAt eP eT B w p g cap E now) (k : Nat) (hk : k < E.length) : w.cell? ⟨g, k * 3, none⟩ = some (Undo.wh E k) ∧ w.cell? ⟨g, k * 3 + 1, none⟩ = some (.int .i64 (Undo.up E k)) ∧ w.cell? ⟨g, k * 3 + 2, none⟩ = some (.int .i64 (Undo.dn E k)) := by
  obtain ⟨h1, h2, h3⟩ := Undo.cells_get E k hk
  have hl := Undo.cells_length E
  have hr : RowAt w g 0 eT (Undo.cells E) := h.own.row.2.2.2.2
  refine ⟨?_, ?_, ?_⟩
  · have := hr.cell? (k * 3) (by omega); rw [Nat.zero_add] at this; rw [this, h1]
  · have := hr.cell? (k * 3 + 1) (by omega); rw [Nat.zero_add] at this; rw [this, h2]
  · have := hr.cell? (k * 3 + 2) (by omega); rw [Nat.zero_add] at this; rw [this, h3]
theorem TreeAt.frozen (h : TreeAt eP eT B w p g cap E now) (k : Nat) (hk : k < E.length) : w.frozen? ⟨g, k * 3 + 2, none⟩ = false := by
  have hl := Undo.cells_length E
  have hr : RowAt w g 0 eT (Undo.cells E) := h.own.row.2.2.2.2
  exact hr.frozen0 _ (by omega)
theorem TreeAt.upb (h : TreeAt eP eT B w p g cap E now) (k : Nat) (hk : k < E.length) : -1 ≤ Undo.up E k ∧ Undo.up E k < (k : Int) := by
  by_cases h0 : k = 0
  · subst h0; have := h.up.1; omega
  · have := h.up.2 k (by omega) hk; omega
end
theorem infoState_I : (Try.prog.info? 96).map (fun i => (i.zero, i.size, i.bytes)) = some (some (.agg #[.int .i64 0, .int .i64 0, .int .i64 0]), 3, 24) := by kernel_rfl
set_option maxRecDepth 100000 in
theorem Now_I (B p g cap now : Nat) (E : List Undo.Ent) (w : World) (h : TreeAt 94 96 B w p g cap E now) :
    Calls Try.prog 47 #[.pointer (some ⟨p, 0, none⟩)] w fun e w' => e = .returned (Undo.wh E now) ∧ ∃ k, w' = w.drewN k := by
  have h0 := h.c0
  have h1 := h.c1
  have h2 := (h.cells now h.nowlt).1
  have hb := h.nowlt
  have hf := h.few
  have hbI : (now : Int) < (E.length : Int) := by omega
  generalize Undo.wh E now = v at *
  generalize E.length = n at *
  clear h
  go_enter Try.func47, Try.ntmps47
  go_wp2_with fail
  go_quiet (fail)
  go_wp2_with fail
  go_ret
  exact ⟨rfl, _, rfl⟩
set_option maxRecDepth 100000 in
theorem Len_I (B p g cap now : Nat) (E : List Undo.Ent) (w : World) (h : TreeAt 94 96 B w p g cap E now) :
    Calls Try.prog 42 #[.pointer (some ⟨p, 0, none⟩)] w fun e w' => e = .returned (.int .i64 (E.length : Nat)) ∧ w = w' := by
  have h0 := h.c0
  clear h
  go_enter Try.func42, Try.ntmps42
  go_wp2_with fail
  go_ret
  exact ⟨rfl, rfl⟩
set_option maxRecDepth 100000 in
theorem At_I (B p g cap now : Nat) (E : List Undo.Ent) (w : World) (h : TreeAt 94 96 B w p g cap E now) :
    Calls Try.prog 48 #[.pointer (some ⟨p, 0, none⟩)] w fun e w' => e = .returned (.int .i64 (now : Nat)) ∧ w = w' := by
  have h1 := h.c1
  clear h
  go_enter Try.func48, Try.ntmps48
  go_wp2_with fail
  go_ret
  exact ⟨rfl, rfl⟩
set_option maxRecDepth 100000 in
theorem Undo_I (B p g cap now u : Nat) (E : List Undo.Ent) (w : World) (h : TreeAt 94 96 B w p g cap E now) (hu : Undo.up E now = (u : Int)) :
    Calls Try.prog 44 #[.pointer (some ⟨p, 0, none⟩)] w fun e w' => e = .returned .nilIface ∧
      TreeAt 94 96 B w' p g cap (Undo.setDn E u (now : Nat)) u ∧ Two p g w w' := by
  have h0 := h.c0
  have h1 := h.c1
  have hub := h.upb now h.nowlt
  have hun : u < E.length := by have := h.nowlt; omega
  have hb := h.nowlt
  have h2 := (h.cells now h.nowlt).2.1
  have h3 := (h.cells u hun).2.2
  have hf3 := h.frozen u hun
  have hf1 := h.f1
  have hf := h.few
  rw [hu] at h2
  have hbI : (now : Int) < (E.length : Int) := by omega
  have hbU : (u : Int) < (E.length : Int) := by omega
  generalize hdn : Undo.dn E u = d at *
  clear hdn hub
  have hne := h.ne
  have H := Lib.hid h; clear h
  have HU := Lib.hid hu; clear hu
  generalize hn : E.length = n at *
  have HN := Lib.hid hn; clear hn
  go_enter Try.func44, Try.ntmps44
  go_wp2_with fail
  go_quiet (fail)
  go_wp2_with fail
  go_region
  all_goals go_wp2_with fail
  go_ret
  have hlt := HN.out
  have hlt2 := H.out.nowlt
  have t1 := (H.out.drewN nq).setDn u now (by omega) hlt2
  have t2 := t1.drew.setNow u (by rw [Undo.setDn_length]; omega)
  exact ⟨rfl, t2, ((((Two.refl p g w).drewN nq).setCell (a := ⟨g, u * 3 + 2, none⟩) (.inr rfl) _).drew).setCell (a := ⟨p, 1, none⟩) (.inl rfl) _⟩
set_option maxRecDepth 100000 in
theorem Redo_I (B p g cap now d : Nat) (E : List Undo.Ent) (w : World) (h : TreeAt 94 96 B w p g cap E now) (hu : Undo.dn E now = (d : Int)) :
    Calls Try.prog 46 #[.pointer (some ⟨p, 0, none⟩)] w fun e w' => e = .returned .nilIface ∧
      TreeAt 94 96 B w' p g cap E d ∧ Two p g w w' := by
  have h0 := h.c0
  have h1 := h.c1
  have hdb := h.dn now h.nowlt
  have hb := h.nowlt
  have h2 := (h.cells now h.nowlt).2.2
  have hf1 := h.f1
  have hf := h.few
  rw [hu] at h2 hdb
  have hbI : (now : Int) < (E.length : Int) := by omega
  have hdn : d < E.length := by omega
  have H := Lib.hid h; clear h
  have HU := Lib.hid hu; clear hu
  have HD := Lib.hid hdn; clear hdn
  generalize hn : E.length = n at *
  have HN := Lib.hid hn; clear hn
  go_enter Try.func46, Try.ntmps46
  go_wp2_with fail
  go_quiet (fail)
  go_wp2_with fail
  go_ret
  exact ⟨rfl, (H.out.drewN nq).setNow d (by rw [HN.out]; exact HD.out), ((Two.refl p g w).drewN nq).setCell (a := ⟨p, 1, none⟩) (.inl rfl) _⟩
set_option maxRecDepth 100000 in
set_option maxHeartbeats 1000000 in
theorem Go_I (B p g cap now n : Nat) (E : List Undo.Ent) (w : World) (h : TreeAt 94 96 B w p g cap E now) (hn : n < E.length) :
    Calls Try.prog 41 #[.pointer (some ⟨p, 0, none⟩), .int .i64 (n : Nat)] w fun e w' => e = .returned .nilIface ∧
      TreeAt 94 96 B w' p g cap (Undo.go E n) n ∧ Two p g w w' := by
  have h0 := h.c0
  have hf := h.few
  obtain ⟨N, hN⟩ : ∃ N, N = E.length := ⟨_, rfl⟩
  rw [← hN] at h0 hf hn
  have e1 : decide ((N : Int) ≤ (n : Int)) = false := by rw [decide_eq_false_iff_not]; omega
  have H := Lib.hid h; clear h
  have HN := Lib.hid hN; clear hN
  go_enter Try.func41, Try.ntmps41
  go_wp2_with fail
  clear h0
  go_loopw [5] (fun K wr => ∃ (k : Nat) (F : List Undo.Ent), k < N ∧ K = .int .i64 k ∧ Hid (TreeAt 94 96 B wr p g cap F now) ∧ Hid (Undo.go F k = Undo.go E n ∧ F.length = N) ∧ Hid (Two p g w wr)) (fun K _ => (intOf K).toNat)
  case atStart => exact ⟨n, E, hn, rfl, H, ⟨rfl, HN.out.symm⟩, Two.refl _ _ _⟩
  case round =>
    clear H
    obtain ⟨k, F, hk, rfl, H, HG, HT⟩ := hrel
    have hFN := HG.out.2
    have h0 := H.out.c0
    have hub := H.out.upb k (by omega)
    have h2 := (H.out.cells k (by omega)).2.1
    have hkI : (k : Int) < (N : Int) := by omega
    rw [hFN] at h0
    by_cases hup : 0 ≤ Undo.up F k
    · have hst := Undo.go_step F N (by have := H.out.up; rwa [hFN] at this) k hk hup
      rw [HG.out.1] at hst
      obtain ⟨u, hu⟩ := Int.eq_ofNat_of_zero_le hup
      have hun : u < N := by omega
      have h3 := (H.out.cells u (by omega)).2.2
      have hf3 := H.out.frozen u (by omega)
      rw [hu] at h2 hst
      rw [Int.toNat_natCast] at hst
      have huk : u < k := by omega
      generalize Undo.dn F u = d at *
      have HST := Lib.hid hst; clear hst
      have HU := Lib.hid hu; clear hu
      have HFN := Lib.hid hFN; clear hFN
      have hunI : (u : Int) < (N : Int) := by omega
      clear hup hub
      have t1 := H.out.setDn u k (by rw [HFN.out]; exact hun) (by rw [HFN.out]; exact hk)
      have c0' := t1.c0
      have c2' := (t1.cells k (by rw [Undo.setDn_length, HFN.out]; exact hk)).2.1
      rw [Undo.setDn_length, HFN.out] at c0'
      rw [Undo.up_setDn, HU.out] at c2'
      have T1 := Lib.hid t1; clear t1
      go_wp2_with fail
      go_region
      all_goals go_wp2_with fail
      go_roundw
      case rel => exact ⟨u, Undo.setDn F u (k : Nat), hun, rfl, T1.out.drew, ⟨HST.out.symm, by rw [Undo.setDn_length, HFN.out]⟩, (HT.out.setCell (a := ⟨g, u * 3 + 2, none⟩) (.inr rfl) _).drew⟩
      case measure => simp [intOf]; omega
    · have hup' : Undo.up F k < 0 := by omega
      have hr := Undo.go_root F k hup'
      rw [HG.out.1] at hr
      have HR := Lib.hid hr; clear hr
      have hup2 : decide ((0 : Int) ≤ Undo.up F k) = false := by rw [decide_eq_false_iff_not]; exact hup
      have h1 := H.out.c1
      have hf1 := H.out.f1
      have HFN := Lib.hid hFN; clear hFN
      generalize Undo.up F k = uk at *
      go_wp2_with fail
      go_ret
      have t1 := H.out.setNow n (by rw [HFN.out]; omega)
      rw [HR.out]
      exact ⟨rfl, t1, HT.out.setCell (a := ⟨p, 1, none⟩) (.inl rfl) _⟩
set_option maxRecDepth 100000 in
set_option maxHeartbeats 1000000 in
theorem Way_I (B p g cap now : Nat) (E : List Undo.Ent) (w : World) (h : TreeAt 94 96 B w p g cap E now) :
    Calls Try.prog 43 #[.pointer (some ⟨p, 0, none⟩)] w fun e w' => ∃ a cap', e = .returned (.slice a (Undo.path (Undo.up E) now).length cap') ∧
      Owns w' w.heap.size 3 1 a (Undo.path (Undo.up E) now).length cap' (ivals ((Undo.path (Undo.up E) now).map fun (i : Nat) => (i : Int))) ∧ Below w.heap.size w w' := by
  have h1 := h.c1
  have hnow := h.nowlt
  have hf := h.few
  have hpl := Undo.path_len (Undo.up E) E.length h.up now h.nowlt
  obtain ⟨N, hN⟩ : ∃ N, N = E.length := ⟨_, rfl⟩
  rw [← hN] at hnow hf
  generalize hP : Undo.path (Undo.up E) now = P at *
  have H := Lib.hid h; clear h
  have HN := Lib.hid hN; clear hN
  have HP := Lib.hid hP; clear hP
  go_enter Try.func43, Try.ntmps43
  go_wp2_with fail
  clear h1
  go_loopw [3, 4] (fun out K wr => ∃ (k : Int) (L : List Nat) (a : Option Addr) (cap' : Nat), -1 ≤ k ∧ k < N ∧ K = .int .i64 k ∧ out = .slice a L.length cap' ∧ Hid ((k = -1 ∧ L = P) ∨ (0 ≤ k ∧ Undo.path (Undo.up E) k.toNat ++ L = P)) ∧
      Owns wr w.heap.size 3 1 a L.length cap' (ivals (L.map fun (i : Nat) => (i : Int))) ∧ Below w.heap.size w wr) (fun _ K _ => (intOf K + 1).toNat)
  case atStart => exact ⟨now, [], none, 0, by omega, by omega, rfl, rfl, .inr ⟨by omega, by simpa using HP.out⟩, Owns.nil _ _ _ _, Below.refl _ _⟩
  case round =>
    obtain ⟨k, L, a, cap', hk1, hk2, rfl, rfl, HL, hown, hb⟩ := hrel
    by_cases hk0 : 0 ≤ k
    · obtain ⟨q, rfl⟩ := Int.eq_ofNat_of_zero_le hk0
      have hLP : Undo.path (Undo.up E) q ++ L = P := by
        rcases HL.out with ⟨h1, _⟩ | ⟨_, h2⟩
        · omega
        · simpa using h2
      have hbs := hb.size
      have hT := H.out.below hb (Nat.le_refl _)
      have hub := hT.upb q (by rw [← HN.out]; omega)
      have hc0 := hT.c0
      have hc2 := (hT.cells q (by rw [← HN.out]; omega)).2.1
      rw [← HN.out] at hc0
      have hnext : ∀ u, Undo.up E q = u → (u = -1 ∧ q :: L = P) ∨ (0 ≤ u ∧ Undo.path (Undo.up E) u.toNat ++ (q :: L) = P) := by
        intro u hu
        by_cases hu0 : 0 ≤ u
        · right
          refine ⟨hu0, ?_⟩
          have := Undo.path_step (Undo.up E) E.length hT.up q (by rw [← HN.out]; omega) (by rw [hu]; exact hu0)
          rw [this, hu] at hLP
          simpa using hLP
        · left
          have := Undo.path_root (Undo.up E) q (by rw [hu]; omega)
          rw [this] at hLP
          exact ⟨by omega, by simpa using hLP⟩
      have hLl : L.length + 1 ≤ N := by
        have h1 := congrArg List.length hLP
        rw [List.length_append] at h1
        have := Undo.path_pos (Undo.up E) q
        omega
      have hqN : (q : Int) < (N : Int) := by omega
      have HNX := Lib.hid (hnext _ rfl); clear hnext hLP
      generalize huq : Undo.up E q = u at *
      have HUQ := Lib.hid huq; clear huq
      have htl := hT.lt
      have htg := hT.glt.2
      clear HL
      have hone : ∀ v ∈ ivals (L.map fun (i : Nat) => (i : Int)), v.oneCell' = true := by
        intro v hv
        simp only [ivals, List.mem_map] at hv
        obtain ⟨x, _, rfl⟩ := hv
        rfl
      have hml : 1 + L.length ≤ maxLen := by unfold maxLen; omega
      have hmb : (1 + L.length) * 8 ≤ 140737488355328 := by omega
      go_wp2_with (with_reducible refine wpList_front _ rfl _ _ 61 rfl w.heap.size w.heap.size 3 (.int .i64 0) 1 8 Try.underlying61 infoInt rfl (by decide) 1 (by decide) (by decide) [.int .i64 (q : Nat)] rfl rfl a L.length cap' _ rfl hown hone hml hmb hbs ?_; intro a' cap'' w' hown' hb' hsz' hex; have hT' := hT.below hb' (Nat.le_refl _); have hc0' := hT'.c0; have hc2' := (hT'.cells q (by rw [← HN.out]; omega)).2.1; rw [← HN.out] at hc0'; rw [HUQ.out] at hc2')
      have hlen' : (q :: L).length = 1 + L.length := by simp; omega
      go_roundw
      case rel =>
        refine ⟨u, q :: L, a', cap'', by omega, by omega, rfl, by rw [hlen'], HNX, ?_, ?_⟩
        · rw [hlen']; exact hown'
        · exact hb.trans (hb'.mono hbs)
      case measure => simp [intOf]; omega
    · have hk3 : k = -1 := by omega
      have hLP : L = P := by
        rcases HL.out with ⟨_, h1⟩ | ⟨h1, _⟩
        · exact h1
        · omega
      have hd : decide ((0 : Int) ≤ k) = false := by rw [decide_eq_false_iff_not]; exact hk0
      have HLP := Lib.hid hLP; clear hLP
      have hk4 : k < 0 := by omega
      clear hk3 hk0
      go_wp2_with fail
      go_ret
      rw [← HLP.out]
      exact ⟨a, cap', rfl, hown, hb⟩
set_option maxRecDepth 100000 in
theorem New_I (x : Int) (w : World) :
    Calls Try.prog 68 #[.int .i64 x] w fun e w' => ∃ p g, e = .returned (.pointer (some ⟨p, 0, none⟩)) ∧
      TreeAt 94 96 w.heap.size w' p g 1 [((.int .i64 x : Value), (-1 : Int), (-1 : Int))] 0 ∧ Below w.heap.size w w' := by
  go_enter Try.func68, Try.ntmps68
  go_wp2_with fail
  go_ret
  refine ⟨_, w.heap.size, rfl, ?_, ?_⟩
  · refine { row := RowAt.new' _ _ (by simp) _ _, own := ?_, ne := by simp, pB := by simp, nowlt := by simp, up := ?_, dn := ?_, few := by simp }
    · exact Owns.of_row (n := 1) (cap := 1) rfl _ w.heap.size #[.int .i64 x, .int .i64 (-1), .int .i64 (-1)] (Nat.le_refl _) ((Below.heap_alloc _ _ _ (by simp)).trans (heap_alloc_new w _)) rfl (Nat.le_refl _) (by decide) rfl
    · exact ⟨rfl, fun k h1 h2 => by simp at h2; omega⟩
    · intro k hk
      simp at hk
      subst hk
      simp [Undo.dn]
  · exact ((Below.refl _ _).alloc (Nat.le_refl _) _).alloc (by simp) _
set_option maxRecDepth 100000 in
set_option maxHeartbeats 2000000 in
theorem Add_I (B p g cap now : Nat) (E : List Undo.Ent) (x : Int) (w : World) (h : TreeAt 94 96 B w p g cap E now) (hE : E.length < 200) :
    Calls Try.prog 69 #[.pointer (some ⟨p, 0, none⟩), .int .i64 x] w fun e w' => ∃ g' cap', e = .returned .nilIface ∧
      TreeAt 94 96 B w' p g' cap' (Undo.setDn (E ++ [((.int .i64 x : Value), ((now : Nat) : Int), (-1 : Int))]) now (E.length : Nat)) E.length ∧ Below B w w' ∧ w.heap.size ≤ w'.heap.size := by
  have h0 := h.c0
  have h1 := h.c1
  have hf0 := h.f0
  have hf1 := h.f1
  have hnow := h.nowlt
  have hown := h.own
  have hlt := h.lt
  have hpB := h.pB
  have hne := h.ne
  have hgl := h.glt
  have hrow := h.row
  generalize hN : E.length = N at *
  have HN := Lib.hid hN; clear hN
  have H := Lib.hid h; clear h
  have e1 : decide ((200 : Int) ≤ (N : Int)) = false := by rw [decide_eq_false_iff_not]; omega
  go_enter Try.func69, Try.ntmps69
  go_wp2_with fail
  have hml : N + 1 ≤ maxLen := by unfold maxLen; omega
  have hmb : (N + 1) * 24 ≤ 140737488355328 := by omega
  have hb2 : B ≤ (w.drew.alloc (.cells #[.int .i64 x, .int .i64 (now : Nat), .int .i64 (-1)] 96)).heap.size := by simp; omega
  have hplt : p < (w.drew.alloc (.cells #[.int .i64 x, .int .i64 (now : Nat), .int .i64 (-1)] 96)).heap.size := by simp; omega
  have hpg : some p ≠ blk (some ⟨g, 0, none⟩) := by simp [blk]; exact hne
  go_region_law ((refine step_pushN _ (by rfl) _ _ 92 (by rfl) B 96 (.agg #[.int .i64 0, .int .i64 0, .int .i64 0]) 3 24 Try.underlying92 infoState_I rfl (by decide) (some ⟨g, 0, none⟩) N cap _ (by rfl) (hown.drew.alloc _) w.heap.size 1 1 (by decide) [.int .i64 x, .int .i64 (now : Nat), .int .i64 (-1)] (by rfl) (by simp [Value.oneCell']) (by rfl) (RowAt.new w.drew 96 #[.int .i64 x, .int .i64 (now : Nat), .int .i64 (-1)]) hml hmb hb2 ?_; intro a' cap' w' hown' hgrow hloc hex; have hrow' := RowAt.of_heap (hrow.drew.alloc _) (hgrow.block p hplt hpg); have hq0 := hrow'.cell0 0 (by simp); have hqf := hrow'.frozen0 0 (by simp)))
  all_goals
    obtain ⟨g', rfl⟩ := hex
    have hne' : p ≠ g' := by
      rcases hloc _ rfl with h | h
      · cases h; exact hne
      · simp at h; omega
    have T1 : TreeAt 94 96 B (w'.setCell ⟨p, 0, none⟩ (.slice (some ⟨g', 0, none⟩) (N + 1) cap')) p g' cap' (E ++ [((.int .i64 x : Value), ((now : Nat) : Int), (-1 : Int))]) now :=
      { row := by
          have := hrow'.set0 0 (by simp) (.slice (some ⟨g', 0, none⟩) (N + 1) cap')
          rw [List.length_append, HN.out]
          exact this
        own := by
          have := hown'.far (p := ⟨p, 0, none⟩) (fun x hx => by cases hx; exact fun e => hne' e.symm) (.slice (some ⟨g', 0, none⟩) (N + 1) cap')
          rw [List.length_append, HN.out, Undo.cells_append]
          exact this
        ne := hne'
        pB := hpB
        nowlt := by rw [List.length_append, HN.out]; simp; omega
        up := Undo.up_more E _ now H.out.up H.out.nowlt
        dn := Undo.dn_more E _ now H.out.dn
        few := by rw [List.length_append, HN.out]; simp; omega }
    have hbB : Below B w (w'.setCell ⟨p, 0, none⟩ (.slice (some ⟨g', 0, none⟩) (N + 1) cap')) := by
      refine Below.setCell ?_ (p := ⟨p, 0, none⟩) hpB _
      refine (((Below.refl B w).drew).alloc (by simp; omega) (.cells #[.int .i64 x, .int .i64 (now : Nat), .int .i64 (-1)] 96)).grown hgrow hb2 ?_
      intro k hk
      simp [blk] at hk
      have := hgl.1
      omega
    have hzz : w.heap.size ≤ (w'.setCell ⟨p, 0, none⟩ (.slice (some ⟨g', 0, none⟩) (N + 1) cap')).heap.size := by
      have := hgrow.size
      simp at this
      simp; omega
    clear hrow' hq0 hqf hown' hgrow hloc
    generalize w'.setCell ⟨p, 0, none⟩ (.slice (some ⟨g', 0, none⟩) (N + 1) cap') = w2 at *
    have hEl : (E ++ [((.int .i64 x : Value), ((now : Nat) : Int), (-1 : Int))]).length = N + 1 := by rw [List.length_append, HN.out]; simp
    have k0 := T1.c0
    have k1 := T1.c1
    have kf := T1.f1
    have kc := (T1.cells now (by rw [hEl]; omega)).2.2
    have kz := T1.frozen now (by rw [hEl]; omega)
    rw [hEl] at k0
    have T2 := T1.setDn now N (by rw [hEl]; omega) (by rw [hEl]; omega)
    generalize Undo.dn (E ++ [((.int .i64 x : Value), ((now : Nat) : Int), (-1 : Int))]) now = dd at *
    have k0' := T2.c0
    have k1' := T2.c1
    have kf' := T2.f1
    rw [Undo.setDn_length, hEl] at k0'
    have T2' := Lib.hid T2; clear T2
    have T1' := Lib.hid T1; clear T1
    have HEL := Lib.hid hEl; clear hEl
    clear h0 h1 hf0 hf1 hown hrow hgl
    have hnI : (now : Int) < (N : Int) + 1 := by omega
    have hnI0 : (now : Int) < (N : Int) := by omega
    go_wp2_with fail
    go_region
    all_goals go_wp2_with fail
    all_goals go_ret
    all_goals
      have hgB := T1'.out.glt.1
      refine ⟨g', cap', rfl, T2'.out.drew.setNow N (by rw [Undo.setDn_length, HEL.out]; omega), (((hbB.setCell (p := ⟨g', now * 3 + 2, none⟩) hgB _).drew).setCell (p := ⟨p, 1, none⟩) hpB _), ?_⟩
      simpa using hzz
theorem infoState_S : (Try.prog.info? 105).map (fun i => (i.zero, i.size, i.bytes)) = some (some (.agg #[.string ByteArray.empty, .int .i64 0, .int .i64 0]), 3, 32) := by kernel_rfl
set_option maxRecDepth 100000 in
theorem Now_S (B p g cap now : Nat) (E : List Undo.Ent) (w : World) (h : TreeAt 108 105 B w p g cap E now) :
    Calls Try.prog 64 #[.pointer (some ⟨p, 0, none⟩)] w fun e w' => e = .returned (Undo.wh E now) ∧ ∃ k, w' = w.drewN k := by
  have h0 := h.c0
  have h1 := h.c1
  have h2 := (h.cells now h.nowlt).1
  have hb := h.nowlt
  have hf := h.few
  have hbI : (now : Int) < (E.length : Int) := by omega
  generalize Undo.wh E now = v at *
  generalize E.length = n at *
  clear h
  go_enter Try.func64, Try.ntmps64
  go_wp2_with fail
  go_quiet (fail)
  go_wp2_with fail
  go_ret
  exact ⟨rfl, _, rfl⟩
set_option maxRecDepth 100000 in
theorem Len_S (B p g cap now : Nat) (E : List Undo.Ent) (w : World) (h : TreeAt 108 105 B w p g cap E now) :
    Calls Try.prog 66 #[.pointer (some ⟨p, 0, none⟩)] w fun e w' => e = .returned (.int .i64 (E.length : Nat)) ∧ w = w' := by
  have h0 := h.c0
  clear h
  go_enter Try.func66, Try.ntmps66
  go_wp2_with fail
  go_ret
  exact ⟨rfl, rfl⟩
set_option maxRecDepth 100000 in
theorem Undo_S (B p g cap now u : Nat) (E : List Undo.Ent) (w : World) (h : TreeAt 108 105 B w p g cap E now) (hu : Undo.up E now = (u : Int)) :
    Calls Try.prog 63 #[.pointer (some ⟨p, 0, none⟩)] w fun e w' => e = .returned .nilIface ∧
      TreeAt 108 105 B w' p g cap (Undo.setDn E u (now : Nat)) u ∧ Two p g w w' := by
  have h0 := h.c0
  have h1 := h.c1
  have hub := h.upb now h.nowlt
  have hun : u < E.length := by have := h.nowlt; omega
  have hb := h.nowlt
  have h2 := (h.cells now h.nowlt).2.1
  have h3 := (h.cells u hun).2.2
  have hf3 := h.frozen u hun
  have hf1 := h.f1
  have hf := h.few
  rw [hu] at h2
  have hbI : (now : Int) < (E.length : Int) := by omega
  have hbU : (u : Int) < (E.length : Int) := by omega
  generalize hdn : Undo.dn E u = d at *
  clear hdn hub
  have hne := h.ne
  have H := Lib.hid h; clear h
  have HU := Lib.hid hu; clear hu
  generalize hn : E.length = n at *
  have HN := Lib.hid hn; clear hn
  go_enter Try.func63, Try.ntmps63
  go_wp2_with fail
  go_quiet (fail)
  go_wp2_with fail
  go_region
  all_goals go_wp2_with fail
  go_ret
  have hlt := HN.out
  have hlt2 := H.out.nowlt
  have t1 := (H.out.drewN nq).setDn u now (by omega) hlt2
  have t2 := t1.drew.setNow u (by rw [Undo.setDn_length]; omega)
  exact ⟨rfl, t2, ((((Two.refl p g w).drewN nq).setCell (a := ⟨g, u * 3 + 2, none⟩) (.inr rfl) _).drew).setCell (a := ⟨p, 1, none⟩) (.inl rfl) _⟩
set_option maxRecDepth 100000 in
theorem Redo_S (B p g cap now d : Nat) (E : List Undo.Ent) (w : World) (h : TreeAt 108 105 B w p g cap E now) (hu : Undo.dn E now = (d : Int)) :
    Calls Try.prog 65 #[.pointer (some ⟨p, 0, none⟩)] w fun e w' => e = .returned .nilIface ∧
      TreeAt 108 105 B w' p g cap E d ∧ Two p g w w' := by
  have h0 := h.c0
  have h1 := h.c1
  have hdb := h.dn now h.nowlt
  have hb := h.nowlt
  have h2 := (h.cells now h.nowlt).2.2
  have hf1 := h.f1
  have hf := h.few
  rw [hu] at h2 hdb
  have hbI : (now : Int) < (E.length : Int) := by omega
  have hdn : d < E.length := by omega
  have H := Lib.hid h; clear h
  have HU := Lib.hid hu; clear hu
  have HD := Lib.hid hdn; clear hdn
  generalize hn : E.length = n at *
  have HN := Lib.hid hn; clear hn
  go_enter Try.func65, Try.ntmps65
  go_wp2_with fail
  go_quiet (fail)
  go_wp2_with fail
  go_ret
  exact ⟨rfl, (H.out.drewN nq).setNow d (by rw [HN.out]; exact HD.out), ((Two.refl p g w).drewN nq).setCell (a := ⟨p, 1, none⟩) (.inl rfl) _⟩
set_option maxRecDepth 100000 in
set_option maxHeartbeats 1000000 in
theorem Way_S (B p g cap now : Nat) (E : List Undo.Ent) (w : World) (h : TreeAt 108 105 B w p g cap E now) :
    Calls Try.prog 67 #[.pointer (some ⟨p, 0, none⟩)] w fun e w' => ∃ a cap', e = .returned (.slice a (Undo.path (Undo.up E) now).length cap') ∧
      Owns w' w.heap.size 3 1 a (Undo.path (Undo.up E) now).length cap' (ivals ((Undo.path (Undo.up E) now).map fun (i : Nat) => (i : Int))) ∧ Below w.heap.size w w' := by
  have h1 := h.c1
  have hnow := h.nowlt
  have hf := h.few
  have hpl := Undo.path_len (Undo.up E) E.length h.up now h.nowlt
  obtain ⟨N, hN⟩ : ∃ N, N = E.length := ⟨_, rfl⟩
  rw [← hN] at hnow hf
  generalize hP : Undo.path (Undo.up E) now = P at *
  have H := Lib.hid h; clear h
  have HN := Lib.hid hN; clear hN
  have HP := Lib.hid hP; clear hP
  go_enter Try.func67, Try.ntmps67
  go_wp2_with fail
  clear h1
  go_loopw [3, 4] (fun out K wr => ∃ (k : Int) (L : List Nat) (a : Option Addr) (cap' : Nat), -1 ≤ k ∧ k < N ∧ K = .int .i64 k ∧ out = .slice a L.length cap' ∧ Hid ((k = -1 ∧ L = P) ∨ (0 ≤ k ∧ Undo.path (Undo.up E) k.toNat ++ L = P)) ∧
      Owns wr w.heap.size 3 1 a L.length cap' (ivals (L.map fun (i : Nat) => (i : Int))) ∧ Below w.heap.size w wr) (fun _ K _ => (intOf K + 1).toNat)
  case atStart => exact ⟨now, [], none, 0, by omega, by omega, rfl, rfl, .inr ⟨by omega, by simpa using HP.out⟩, Owns.nil _ _ _ _, Below.refl _ _⟩
  case round =>
    obtain ⟨k, L, a, cap', hk1, hk2, rfl, rfl, HL, hown, hb⟩ := hrel
    by_cases hk0 : 0 ≤ k
    · obtain ⟨q, rfl⟩ := Int.eq_ofNat_of_zero_le hk0
      have hLP : Undo.path (Undo.up E) q ++ L = P := by
        rcases HL.out with ⟨h1, _⟩ | ⟨_, h2⟩
        · omega
        · simpa using h2
      have hbs := hb.size
      have hT := H.out.below hb (Nat.le_refl _)
      have hub := hT.upb q (by rw [← HN.out]; omega)
      have hc0 := hT.c0
      have hc2 := (hT.cells q (by rw [← HN.out]; omega)).2.1
      rw [← HN.out] at hc0
      have hnext : ∀ u, Undo.up E q = u → (u = -1 ∧ q :: L = P) ∨ (0 ≤ u ∧ Undo.path (Undo.up E) u.toNat ++ (q :: L) = P) := by
        intro u hu
        by_cases hu0 : 0 ≤ u
        · right
          refine ⟨hu0, ?_⟩
          have := Undo.path_step (Undo.up E) E.length hT.up q (by rw [← HN.out]; omega) (by rw [hu]; exact hu0)
          rw [this, hu] at hLP
          simpa using hLP
        · left
          have := Undo.path_root (Undo.up E) q (by rw [hu]; omega)
          rw [this] at hLP
          exact ⟨by omega, by simpa using hLP⟩
      have hLl : L.length + 1 ≤ N := by
        have h1 := congrArg List.length hLP
        rw [List.length_append] at h1
        have := Undo.path_pos (Undo.up E) q
        omega
      have hqN : (q : Int) < (N : Int) := by omega
      have HNX := Lib.hid (hnext _ rfl); clear hnext hLP
      generalize huq : Undo.up E q = u at *
      have HUQ := Lib.hid huq; clear huq
      have htl := hT.lt
      have htg := hT.glt.2
      clear HL
      have hone : ∀ v ∈ ivals (L.map fun (i : Nat) => (i : Int)), v.oneCell' = true := by
        intro v hv
        simp only [ivals, List.mem_map] at hv
        obtain ⟨x, _, rfl⟩ := hv
        rfl
      have hml : 1 + L.length ≤ maxLen := by unfold maxLen; omega
      have hmb : (1 + L.length) * 8 ≤ 140737488355328 := by omega
      go_wp2_with (with_reducible refine wpList_front _ rfl _ _ 61 rfl w.heap.size w.heap.size 3 (.int .i64 0) 1 8 Try.underlying61 infoInt rfl (by decide) 1 (by decide) (by decide) [.int .i64 (q : Nat)] rfl rfl a L.length cap' _ rfl hown hone hml hmb hbs ?_; intro a' cap'' w' hown' hb' hsz' hex; have hT' := hT.below hb' (Nat.le_refl _); have hc0' := hT'.c0; have hc2' := (hT'.cells q (by rw [← HN.out]; omega)).2.1; rw [← HN.out] at hc0'; rw [HUQ.out] at hc2')
      have hlen' : (q :: L).length = 1 + L.length := by simp; omega
      go_roundw
      case rel =>
        refine ⟨u, q :: L, a', cap'', by omega, by omega, rfl, by rw [hlen'], HNX, ?_, ?_⟩
        · rw [hlen']; exact hown'
        · exact hb.trans (hb'.mono hbs)
      case measure => simp [intOf]; omega
    · have hk3 : k = -1 := by omega
      have hLP : L = P := by
        rcases HL.out with ⟨_, h1⟩ | ⟨h1, _⟩
        · exact h1
        · omega
      have hd : decide ((0 : Int) ≤ k) = false := by rw [decide_eq_false_iff_not]; exact hk0
      have HLP := Lib.hid hLP; clear hLP
      have hk4 : k < 0 := by omega
      clear hk3 hk0
      go_wp2_with fail
      go_ret
      rw [← HLP.out]
      exact ⟨a, cap', rfl, hown, hb⟩
set_option maxRecDepth 100000 in
theorem New_S (x : ByteArray) (w : World) :
    Calls Try.prog 61 #[.string x] w fun e w' => ∃ p g, e = .returned (.pointer (some ⟨p, 0, none⟩)) ∧
      TreeAt 108 105 w.heap.size w' p g 1 [((.string x : Value), (-1 : Int), (-1 : Int))] 0 ∧ Below w.heap.size w w' := by
  go_enter Try.func61, Try.ntmps61
  go_wp2_with fail
  go_ret
  refine ⟨_, w.heap.size, rfl, ?_, ?_⟩
  · refine { row := RowAt.new' _ _ (by simp) _ _, own := ?_, ne := by simp, pB := by simp, nowlt := by simp, up := ?_, dn := ?_, few := by simp }
    · exact Owns.of_row (n := 1) (cap := 1) rfl _ w.heap.size #[.string x, .int .i64 (-1), .int .i64 (-1)] (Nat.le_refl _) ((Below.heap_alloc _ _ _ (by simp)).trans (heap_alloc_new w _)) rfl (Nat.le_refl _) (by decide) rfl
    · exact ⟨rfl, fun k h1 h2 => by simp at h2; omega⟩
    · intro k hk
      simp at hk
      subst hk
      simp [Undo.dn]
  · exact ((Below.refl _ _).alloc (Nat.le_refl _) _).alloc (by simp) _
set_option maxRecDepth 100000 in
set_option maxHeartbeats 2000000 in
theorem Add_S (B p g cap now : Nat) (E : List Undo.Ent) (x : ByteArray) (w : World) (h : TreeAt 108 105 B w p g cap E now) (hE : E.length < 200) :
    Calls Try.prog 62 #[.pointer (some ⟨p, 0, none⟩), .string x] w fun e w' => ∃ g' cap', e = .returned .nilIface ∧
      TreeAt 108 105 B w' p g' cap' (Undo.setDn (E ++ [((.string x : Value), ((now : Nat) : Int), (-1 : Int))]) now (E.length : Nat)) E.length ∧ Below B w w' ∧ w.heap.size ≤ w'.heap.size := by
  have h0 := h.c0
  have h1 := h.c1
  have hf0 := h.f0
  have hf1 := h.f1
  have hnow := h.nowlt
  have hown := h.own
  have hlt := h.lt
  have hpB := h.pB
  have hne := h.ne
  have hgl := h.glt
  have hrow := h.row
  generalize hN : E.length = N at *
  have HN := Lib.hid hN; clear hN
  have H := Lib.hid h; clear h
  have e1 : decide ((200 : Int) ≤ (N : Int)) = false := by rw [decide_eq_false_iff_not]; omega
  go_enter Try.func62, Try.ntmps62
  go_wp2_with fail
  have hml : N + 1 ≤ maxLen := by unfold maxLen; omega
  have hmb : (N + 1) * 32 ≤ 140737488355328 := by omega
  have hb2 : B ≤ (w.drew.alloc (.cells #[.string x, .int .i64 (now : Nat), .int .i64 (-1)] 105)).heap.size := by simp; omega
  have hplt : p < (w.drew.alloc (.cells #[.string x, .int .i64 (now : Nat), .int .i64 (-1)] 105)).heap.size := by simp; omega
  have hpg : some p ≠ blk (some ⟨g, 0, none⟩) := by simp [blk]; exact hne
  go_region_law ((refine step_pushN _ (by rfl) _ _ 106 (by rfl) B 105 (.agg #[.string ByteArray.empty, .int .i64 0, .int .i64 0]) 3 32 Try.underlying106 infoState_S rfl (by decide) (some ⟨g, 0, none⟩) N cap _ (by rfl) (hown.drew.alloc _) w.heap.size 1 1 (by decide) [.string x, .int .i64 (now : Nat), .int .i64 (-1)] (by rfl) (by simp [Value.oneCell']) (by rfl) (RowAt.new w.drew 105 #[.string x, .int .i64 (now : Nat), .int .i64 (-1)]) hml hmb hb2 ?_; intro a' cap' w' hown' hgrow hloc hex; have hrow' := RowAt.of_heap (hrow.drew.alloc _) (hgrow.block p hplt hpg); have hq0 := hrow'.cell0 0 (by simp); have hqf := hrow'.frozen0 0 (by simp)))
  all_goals
    obtain ⟨g', rfl⟩ := hex
    have hne' : p ≠ g' := by
      rcases hloc _ rfl with h | h
      · cases h; exact hne
      · simp at h; omega
    have T1 : TreeAt 108 105 B (w'.setCell ⟨p, 0, none⟩ (.slice (some ⟨g', 0, none⟩) (N + 1) cap')) p g' cap' (E ++ [((.string x : Value), ((now : Nat) : Int), (-1 : Int))]) now :=
      { row := by
          have := hrow'.set0 0 (by simp) (.slice (some ⟨g', 0, none⟩) (N + 1) cap')
          rw [List.length_append, HN.out]
          exact this
        own := by
          have := hown'.far (p := ⟨p, 0, none⟩) (fun x hx => by cases hx; exact fun e => hne' e.symm) (.slice (some ⟨g', 0, none⟩) (N + 1) cap')
          rw [List.length_append, HN.out, Undo.cells_append]
          exact this
        ne := hne'
        pB := hpB
        nowlt := by rw [List.length_append, HN.out]; simp; omega
        up := Undo.up_more E _ now H.out.up H.out.nowlt
        dn := Undo.dn_more E _ now H.out.dn
        few := by rw [List.length_append, HN.out]; simp; omega }
    have hbB : Below B w (w'.setCell ⟨p, 0, none⟩ (.slice (some ⟨g', 0, none⟩) (N + 1) cap')) := by
      refine Below.setCell ?_ (p := ⟨p, 0, none⟩) hpB _
      refine (((Below.refl B w).drew).alloc (by simp; omega) (.cells #[.string x, .int .i64 (now : Nat), .int .i64 (-1)] 105)).grown hgrow hb2 ?_
      intro k hk
      simp [blk] at hk
      have := hgl.1
      omega
    have hzz : w.heap.size ≤ (w'.setCell ⟨p, 0, none⟩ (.slice (some ⟨g', 0, none⟩) (N + 1) cap')).heap.size := by
      have := hgrow.size
      simp at this
      simp; omega
    clear hrow' hq0 hqf hown' hgrow hloc
    generalize w'.setCell ⟨p, 0, none⟩ (.slice (some ⟨g', 0, none⟩) (N + 1) cap') = w2 at *
    have hEl : (E ++ [((.string x : Value), ((now : Nat) : Int), (-1 : Int))]).length = N + 1 := by rw [List.length_append, HN.out]; simp
    have k0 := T1.c0
    have k1 := T1.c1
    have kf := T1.f1
    have kc := (T1.cells now (by rw [hEl]; omega)).2.2
    have kz := T1.frozen now (by rw [hEl]; omega)
    rw [hEl] at k0
    have T2 := T1.setDn now N (by rw [hEl]; omega) (by rw [hEl]; omega)
    generalize Undo.dn (E ++ [((.string x : Value), ((now : Nat) : Int), (-1 : Int))]) now = dd at *
    have k0' := T2.c0
    have k1' := T2.c1
    have kf' := T2.f1
    rw [Undo.setDn_length, hEl] at k0'
    have T2' := Lib.hid T2; clear T2
    have T1' := Lib.hid T1; clear T1
    have HEL := Lib.hid hEl; clear hEl
    clear h0 h1 hf0 hf1 hown hrow hgl
    have hnI : (now : Int) < (N : Int) + 1 := by omega
    have hnI0 : (now : Int) < (N : Int) := by omega
    go_wp2_with fail
    go_region
    all_goals go_wp2_with fail
    all_goals go_ret
    all_goals
      have hgB := T1'.out.glt.1
      refine ⟨g', cap', rfl, T2'.out.drew.setNow N (by rw [Undo.setDn_length, HEL.out]; omega), (((hbB.setCell (p := ⟨g', now * 3 + 2, none⟩) hgB _).drew).setCell (p := ⟨p, 1, none⟩) hpB _), ?_⟩
      simpa using hzz
end Go.Proofs.Ytlpockgofejogaa
