/- Contract of suffix.Find. -/
import Derived.Test.YtenhblpegobbjaaSufC
import Derived.Test.YtenhblpegobbjaaSufH
import Derived.Test.YtenhblpegobbjaaSufJ
import Derived.Test.YtenhblpegobbjaaPlainSuffix5
namespace Go.Proofs.Ytenhblpegobbjaa
open Go.RowKit
set_option linter.unusedVariables false
set_option linter.unusedSimpArgs false
open Suf
/-- what Find holds -/
structure FH (w wr : World) (l : List UInt8) (sb ga : Nat) (A : List Nat) : Prop where
  rs : RowAt wr sb 0 9 [.string (bstr l)]
  ra : RowAt wr ga 0 3 (nvals .i64 A)
  ne : sb ≠ ga
  low : w.heap.size ≤ ga
  below : Below w.heap.size w wr
theorem FH.drewN {w wr : World} {l : List UInt8} {sb ga : Nat} {A : List Nat} (h : FH w wr l sb ga A) (q : Nat) : FH w (wr.drewN q) l sb ga A := ⟨h.rs.drewN q, h.ra.drewN q, h.ne, h.low, bdrewN h.below q⟩
theorem ownsRow_mono {w : World} {B B' : Nat} {e : TypeId} {size : Nat} {v : Value} {n : Nat} {xs : List Value} (h : w.ownsRow B e size v n xs) (hB : B' ≤ B) : w.ownsRow B' e size v n xs := by
  refine ⟨h.1, ?_⟩
  rcases h.2 with h1 | ⟨g, cp, cur, h1, h2, h3⟩
  · exact .inl h1
  · exact .inr ⟨g, cp, cur, h1, Nat.le_trans hB h2, h3⟩
theorem Clone_row {w w6 : World} {l : List UInt8} {sb ga : Nat} {A : List Nat} (hF : FH w w6 l sb ga A) (hA : A.length = l.length) (lo h : Nat) (hlo : lo ≤ h) (hh : h ≤ l.length) (h4 : l.length ≤ 4000) :
    ∀ a c, (a = some ⟨ga, lo, none⟩ ∨ (h = lo ∧ ∃ o, a = some o)) → Calls Try.prog 84 #[.slice a (h - lo) c] w6 fun e w' => ∃ v', e = .returned v' ∧ w'.ownsRow w.heap.size 3 1 v' (h - lo) (ivals (((A.drop lo).take (h - lo)).map fun i : Nat => (i : Int))) ∧ Below w.heap.size w w' := by
  intro a c ha
  by_cases hz : h - lo = 0
  · rw [hz, List.take_zero]
    have ⟨o, ho⟩ : ∃ o, a = some o := by
      rcases ha with ha | ⟨_, ha⟩
      · exact ⟨_, ha⟩
      · exact ha
    subst ho
    refine (Try.slices_Clone_int_zero o c w6).mono fun e w' ⟨v', h1, h2, _, h3⟩ => ⟨v', h1, ?_, hF.below.trans (h3.mono hF.below.size)⟩
    exact ownsRow_mono h2 hF.below.size
  · obtain rfl : a = some ⟨ga, lo, none⟩ := by
      rcases ha with ha | ⟨h9, _⟩
      · exact ha
      · omega
    have hz2 : (((A.drop lo).take (h - lo)).map fun i : Nat => (i : Int)).length = h - lo := by
      rw [List.length_map, List.length_take, List.length_drop, hA]; omega
    refine (Try.slices_Clone_int ga lo (h - lo) c (((A.drop lo).take (h - lo)).map fun i : Nat => (i : Int)) w6 (by rw [hz2]; exact Nat.le_refl _) (by omega) (fun j hj => ?_)).mono fun e w' ⟨v', h1, h2, _, h3⟩ => ⟨v', h1, ?_, hF.below.trans (h3.mono hF.below.size)⟩
    · rw [hz2] at hj
      have hc := hF.ra.num0 (lo + j) (by rw [hA]; omega)
      have hlj : lo + j < A.length := by rw [hA]; omega
      have e : (((A.drop lo).take (h - lo)).map fun i : Nat => (i : Int)).getD j 0 = ((A.getD (lo + j) 0 : Nat) : Int) := by
        rw [List.getD_eq_getElem?_getD, List.getElem?_map, List.getElem?_take_of_lt hj, List.getElem?_drop, List.getElem?_eq_getElem hlj, List.getD_eq_getElem?_getD, List.getElem?_eq_getElem hlj]
        rfl
      rw [hc, e]
    · rw [List.take_of_length_le (by rw [hz2]; exact Nat.le_refl _)] at h2
      exact ownsRow_mono h2 hF.below.size
/-- what is answered -/
theorem found_row {w' : World} {B : Nat} {v : Value} {n : Nat} {L : List Nat} (h : w'.ownsRow B 3 1 v n (ivals (L.map fun i : Nat => (i : Int)))) (hl : L.length = n) : ∃ a c, v = .slice a L.length c ∧ Owns w' B 3 1 a L.length c (ivals (L.map fun i : Nat => (i : Int))) := by
  subst hl
  rcases h.2 with ⟨h1, h2⟩ | ⟨g, cp, cur, h1, h2⟩
  · subst h1
    exact ⟨none, 0, by rw [h2], by rw [h2] at h ⊢; exact h⟩
  · subst h1
    exact ⟨_, cp, rfl, h⟩
set_option maxRecDepth 100000 in
set_option maxHeartbeats 2000000 in
theorem Find_any (HC : CmpIs) (l p : List UInt8) (w : World) (h4 : l.length ≤ 4000) (hp : p ≠ []) :
    Calls Try.prog 42 #[.string (bstr l), .string (bstr p)] w fun e w' => ∃ (a : Option Addr) (c : Nat) (L : List Nat), e = .returned (.tuple #[.slice a L.length c, .nilIface]) ∧ L.Pairwise (· < ·) ∧ (∀ i, i ∈ L ↔ i < l.length ∧ p <+: l.drop i) ∧ Owns w' w.heap.size 3 1 a L.length c (ivals (L.map fun i : Nat => (i : Int))) ∧ Below w.heap.size w w' := by
  have hpe : (p == []) = false := by rw [beq_eq_false_iff_ne]; exact hp
  have hpe2 : p.isEmpty = false := by cases p with | nil => exact absurd rfl hp | cons a b => rfl
  have hmf : ∀ (fn : Fn) (first cap : Array Value) (w : World), (Instr.makeFunc fn first cap).run Try.prog w = .ok (.func fn first cap) w := fun _ _ _ _ => rfl
  go_enter Try.func42, Try.ntmps42
  go_wp2_with fail
  obtain ⟨sb, hsb⟩ : ∃ sb, sb = w.heap.size := ⟨_, rfl⟩
  obtain ⟨w1, hw1⟩ : ∃ w1, w1 = w.alloc (Obj.cells #[.string (bstr l)] 9) := ⟨_, rfl⟩
  rw [← hsb, ← hw1]
  have hrs : RowAt w1 sb 0 9 [.string (bstr l)] := by rw [hw1]; exact RowAt.new' w sb hsb _ _
  have hb1 : Below w.heap.size w w1 := by rw [hw1]; exact (Below.refl _ _).alloc (Nat.le_refl _) _
  have HRS := Lib.hid hrs; have HB1 := Lib.hid hb1
  clear hrs hb1 hw1 hsb
  refine (Sort_any HC l w1 h4).mono ?_
  rintro e w2 ⟨ga, A, rfl, hS, hrA, hga, hb2⟩
  have HS := Lib.hid hS
  have HFH : Hid (FH w w2 l sb ga A) := Lib.hid ⟨HRS.out.below hb2 HRS.out.lt, hrA, by have := HRS.out.lt; omega, Nat.le_trans HB1.out.size hga, HB1.out.trans (hb2.mono HB1.out.size)⟩
  clear hS hrA hga hb2 HRS HB1
  go_wp2_with fail
  refine (search_ends w2 sb ga l p A HS.out h4 HFH.out.rs HFH.out.ra HFH.out.ne).mono ?_
  rintro e w3 ⟨f, rfl, hr3, hg3⟩
  have HF3 : Hid (FH w w3 l sb ga A) := Lib.hid ⟨HFH.out.rs.of_heap (hg3.block sb HFH.out.rs.lt (by intro e; injection e with e; exact HFH.out.ne e)), hr3, HFH.out.ne, HFH.out.low, HFH.out.below.grown hg3 HFH.out.below.size (fun x e => by cases e; exact HFH.out.low)⟩
  clear hr3 hg3 HFH
  have hfirst := count_first A (fun i => decide (Lib.compareBytes (l.drop i) p < 0)) (fun x y h1 h2 h3 => decide_eq_true (below_first l HS.out p x y h1 (by rw [← HS.out.length l]; exact h2) (of_decide_eq_true h3)))
  have HFI := Lib.hid hfirst
  clear hfirst
  obtain ⟨lo, hlo⟩ : ∃ lo, lo = A.countP fun i => decide (Lib.compareBytes (l.drop i) p < 0) := ⟨_, rfl⟩
  rw [← hlo] at HFI ⊢
  have hlol : lo ≤ l.length := by rw [hlo, ← HS.out.length l]; exact List.countP_le_length
  clear hlo
  go_wp2_with fail
  go_loopw [10] (fun v10 wr => ∃ h : Nat, v10 = .int .i64 h ∧ lo ≤ h ∧ h ≤ l.length ∧ Hid (∀ y, lo ≤ y → y < h → Lib.hasPrefix (l.drop (A.getD y 0)) p = true) ∧ Hid (FH w wr l sb ga A)) (fun v10 _ => l.length - (intOf v10).toNat)
  case atStart => exact ⟨lo, rfl, Nat.le_refl _, hlol, Lib.hid (fun y h1 h2 => absurd h2 (by omega)), HF3⟩
  case round =>
    clear HF3
    obtain ⟨h, rfl, hlo1, hh, HP, HF⟩ := hrel
    by_cases hlt : h < l.length
    · have d1 : decide ((h : Int) < (l.length : Int)) = true := decide_eq_true (by omega)
      have d1n : decide (h < l.length) = true := decide_eq_true hlt
      have hhi : (h : Int) < (l.length : Int) := by omega
      have ca := HF.out.ra.num0 h (by rw [HS.out.length l]; exact hlt)
      have cs := HF.out.rs.cell0 0 (by simp)
      simp only [List.getElem_cons_zero] at cs
      have hin := HS.out.mem l h hlt
      obtain ⟨i, hi⟩ : ∃ i, i = A.getD h 0 := ⟨_, rfl⟩
      rw [← hi] at ca hin
      have hil : (i : Int) ≤ (l.length : Int) := by omega
      have hx := str_drop l i
      obtain ⟨q, hq⟩ : ∃ q, q = l.drop i := ⟨_, rfl⟩
      rw [← hq] at hx
      obtain ⟨b, hb⟩ : ∃ b, b = Lib.hasPrefix q p := ⟨_, rfl⟩
      have HBQ := Lib.hid hb
      have HPC : Hid (∀ W, Calls Try.prog 83 #[.string (bstr q), .string (bstr p)] W fun e w' => e = .returned (.bool b) ∧ W = w') := Lib.hid fun W => by rw [hb]; exact (Try.strings_HasPrefix (bstr q) (bstr p) W).mono fun e w' ⟨h1, h2⟩ => ⟨h1, h2.symm⟩
      have HI := Lib.hid hi; have HQ := Lib.hid hq; have HLT := Lib.hid hlt
      clear hi hq hlt hin hb
      go_wp2_with fail
      go_quiet (first | (go_at_call 83; with_reducible exact Calls.quiet_of_same (turn (HPC.out _))))
      cases b with
      | true =>
        have HPF : Hid (Lib.hasPrefix q p = true) := Lib.hid HBQ.out.symm
        go_wp2_with fail
        go_roundw
        case rel =>
          refine ⟨h + 1, by go_num, by omega, by have := HLT.out; omega, Lib.hid fun y h1 h2 => ?_, Lib.hid (HF.out.drewN nq)⟩
          by_cases e : y = h
          · rw [e, ← HI.out, ← HQ.out]; exact HPF.out
          · exact HP.out y h1 (by omega)
        case measure => simp [intOf]; have := HLT.out; omega
      | false =>
        have hpf2 : Lib.hasPrefix q p = false := HBQ.out.symm
        have HEND : Hid (∀ y, y < l.length → y = h → Lib.hasPrefix (l.drop (A.getD y 0)) p = false) := Lib.hid fun y _ e => by rw [e, ← HI.out, ← HQ.out]; exact hpf2
        clear hpf2
        go_wp2_with fail
        obtain ⟨w6, hw6⟩ : ∃ w6, w6 = wr.drewN nq := ⟨_, rfl⟩
        rw [← hw6]
        have HF6 : Hid (FH w w6 l sb ga A) := Lib.hid (by rw [hw6]; exact HF.out.drewN nq)
        clear hw6 ca cs
        have HLI := Lib.hid (find_list l HS.out p lo h hlo1 (by omega) (fun x hx => by have := HFI.out x hx; simpa using this) HP.out HEND.out)
        refine (Clone_row HF6.out (HS.out.length l) lo h hlo1 (by omega) h4 _ _ (.inl rfl)).mono ?_
        rintro e w7 ⟨v7, rfl, ho7, hb7⟩
        have HO7 := Lib.hid ho7; have HB7 := Lib.hid hb7
        clear ho7 hb7
        go_wp2_with fail
        refine (Sort_own HO7.out (by omega) HB7.out.size).mono ?_
        rintro e w8 ⟨rfl, ho8, hb8⟩
        obtain ⟨L, hL1, hL2, hL3, hL4⟩ := HLI.out
        unfold sortedZ at ho8
        rw [hL1] at ho8
        obtain ⟨a8, c8, rfl, hrd⟩ := found_row ho8 hL2
        have HB8 := Lib.hid (HB7.out.trans hb8)
        have HRD := Lib.hid hrd; have HL3 := Lib.hid hL3; have HL4 := Lib.hid hL4
        clear ho8 hb8 hL1 hL2 hL3 hL4 hrd HO7 HLI
        go_wp2_with fail
        go_ret2
        exact ⟨_, _, L, rfl, HL3.out, HL4.out, HRD.out, HB8.out⟩
    · obtain rfl : h = l.length := by omega
      have d1 : decide ((l.length : Int) < (l.length : Int)) = false := by simp
      have HEND : Hid (∀ y, y < l.length → y = l.length → Lib.hasPrefix (l.drop (A.getD y 0)) p = false) := Lib.hid fun y h1 e => by omega
      go_wp2_with fail
      go_quiet (fail)
      have HLI := Lib.hid (find_list l HS.out p lo l.length hlo1 (Nat.le_refl _) (fun x hx => by have := HFI.out x hx; simpa using this) HP.out HEND.out)
      obtain ⟨w6, hw6⟩ : ∃ w6, w6 = wr.drewN nq := ⟨_, rfl⟩
      rw [← hw6]
      have HF6 : Hid (FH w w6 l sb ga A) := Lib.hid (by rw [hw6]; exact HF.out.drewN nq)
      clear hw6
      by_cases hlc : lo = l.length
      · subst hlc
        have hcr := Clone_row HF6.out (HS.out.length l) l.length l.length (Nat.le_refl _) (Nat.le_refl _) h4 (some ⟨ga, 0, none⟩) 0 (.inr ⟨rfl, _, rfl⟩)
        rw [Nat.sub_self] at hcr HLI
        have HCR := Lib.hid hcr
        clear hcr
        go_wp2_with fail
        with_reducible refine HCR.out.mono ?_
        rintro e w7 ⟨v7, rfl, ho7, hb7⟩
        have HO7 := Lib.hid ho7; have HB7 := Lib.hid hb7
        clear ho7 hb7
        go_wp2_with fail
        refine (Sort_own HO7.out (by omega) HB7.out.size).mono ?_
        rintro e w8 ⟨rfl, ho8, hb8⟩
        obtain ⟨L, hL1, hL2, hL3, hL4⟩ := HLI.out
        unfold sortedZ at ho8
        rw [hL1] at ho8
        obtain ⟨a8, c8, rfl, hrd⟩ := found_row ho8 hL2
        have HB8 := Lib.hid (HB7.out.trans hb8)
        have HRD := Lib.hid hrd; have HL3 := Lib.hid hL3; have HL4 := Lib.hid hL4
        clear ho8 hb8 hL1 hL2 hL3 hL4 hrd HO7 HLI HCR
        go_wp2_with fail
        go_ret2
        exact ⟨_, _, L, rfl, HL3.out, HL4.out, HRD.out, HB8.out⟩
      · have hlc2 : ¬ l.length = lo := fun e => hlc e.symm
        have HCR := Lib.hid (Clone_row HF6.out (HS.out.length l) lo l.length hlo1 (Nat.le_refl _) h4 (some ⟨ga, lo, none⟩) (l.length - lo) (.inl rfl))
        go_wp2_with fail
        with_reducible refine HCR.out.mono ?_
        rintro e w7 ⟨v7, rfl, ho7, hb7⟩
        have HO7 := Lib.hid ho7; have HB7 := Lib.hid hb7
        clear ho7 hb7
        go_wp2_with fail
        refine (Sort_own HO7.out (by omega) HB7.out.size).mono ?_
        rintro e w8 ⟨rfl, ho8, hb8⟩
        obtain ⟨L, hL1, hL2, hL3, hL4⟩ := HLI.out
        unfold sortedZ at ho8
        rw [hL1] at ho8
        obtain ⟨a8, c8, rfl, hrd⟩ := found_row ho8 hL2
        have HB8 := Lib.hid (HB7.out.trans hb8)
        have HRD := Lib.hid hrd; have HL3 := Lib.hid hL3; have HL4 := Lib.hid hL4
        clear ho8 hb8 hL1 hL2 hL3 hL4 hrd HO7 HLI HCR
        go_wp2_with fail
        go_ret2
        exact ⟨_, _, L, rfl, HL3.out, HL4.out, HRD.out, HB8.out⟩
end Go.Proofs.Ytenhblpegobbjaa
