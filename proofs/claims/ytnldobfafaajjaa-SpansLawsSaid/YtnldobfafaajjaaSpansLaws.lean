/- The law SpansLaws. -/
import Derived.Test.YtnldobfafaajjaaSpansJ
import Derived.Test.YtnldobfafaajjaaSpansOne
import Derived.Test.YtnldobfafaajjaaPick
import Derived.Deep.RegionHeld3
import Derived.Test.YtnldobfafaajjaaRegionH
namespace Go.Proofs.Ytnldobfafaajjaa
open Go.RowKit
set_option linter.unusedVariables false
set_option linter.unusedSimpArgs false
theorem wrap_small (x : Int) (h : 0 ≤ x) (h' : x ≤ 9223372036854775807) : wrap64 x = x := IntWalk.wrap64_in _ ⟨by omega, by omega⟩
theorem wrapI_small (x : Int) (h : 0 ≤ x) (h' : x ≤ 9223372036854775807) : IntKind.i64.wrap x = x := by rw [IntKind.wrap_i64]; omega
theorem cnt_rest (f : Int → Bool) (N : Nat) : Spans.cnt f N + Spans.cnt (fun k => decide (k < (N : Int)) && !f k) N = N := by
  have h : Spans.cnt (fun k => decide (k < (N : Int)) && !f k) N = Spans.cnt (fun k => !f k) N := Spans.cnt_congr N fun k h1 h2 => by
    rw [decide_eq_true h2, Bool.true_and]
  rw [h]
  exact Spans.cnt_not f N
theorem sp_one (w : World) (N : Nat) : ReadsSp (w.alloc (.cells #[.int .i64 0, .int .i64 (N : Int)] 37)) (w.alloc (.cells #[.int .i64 0, .int .i64 (N : Int)] 37)).heap.size (some ⟨w.heap.size, 0, none⟩) 1 1 [(0, (N : Int))] :=
  RowAt.reads (l := [(0, (N : Int))]) (RowAt.new w 37 #[.int .i64 0, .int .i64 (N : Int)]) rfl (Nat.le_refl _)
theorem in_all (l : List Spans.Sp) (N : Nat) : ∀ k, 0 ≤ k → (Spans.has l k && Spans.has [(0, (N : Int))] k) = true → k < (N : Int) := by
  intro k hk h
  simp only [Bool.and_eq_true] at h
  have := h.2
  simp [Spans.has] at this
  omega
set_option maxRecDepth 100000 in
set_option maxHeartbeats 4000000 in
theorem SpansLaws_in (xa xb xc : Option Addr) (na ca nb cb nc cc : Nat) (la lb lc : List Spans.Sp) (n_ : Int) (w : World) (hla : ReadsSp w w.heap.size xa na ca la) (hlb : ReadsSp w w.heap.size xb nb cb lb) (hlc : ReadsSp w w.heap.size xc nc cc lc) (h40 : na ≤ 40 ∧ nb ≤ 40 ∧ nc ≤ 40) :
    Calls Try.prog 6 #[.slice xa na ca, .slice xb nb cb, .slice xc nc cc, .int .i64 n_] w fun e w' => e = .returned (.bool true) ∧ Below w.heap.size w w' := by
  obtain ⟨bx, hbx⟩ : ∃ bx, bx = w.heap.size := ⟨_, rfl⟩
  have hrow := RowAt.new w 3 #[.int .i64 n_]
  have hb0 := (Below.refl w.heap.size w).alloc (Nat.le_refl _) (.cells #[.int .i64 n_] 3)
  have hlt0 : bx < (w.alloc (.cells #[.int .i64 n_] 3)).heap.size := by rw [hbx]; simp
  have HLA := Lib.hid hla
  have HLB := Lib.hid hlb
  have HLC := Lib.hid hlc
  clear hla hlb hlc
  rw [← hbx] at hrow
  have HROW := Lib.hid hrow; clear hrow
  have HBE := Lib.hid hb0; clear hb0
  have HBL : Hid (w.heap.size ≤ bx) := Lib.hid (by omega)
  have HBX := Lib.hid hbx
  go_enter Try.func6, Try.ntmps6
  go_wp2_with fail
  rw [← HBX.out]
  clear hbx HBX
  generalize w.alloc (.cells #[.int .i64 n_] 3) = v0 at *
  refine (spanned_any _).mono ?_
  rintro e v1 ⟨rfl, hb⟩
  replace HROW := Lib.hid (HROW.out.below hb hlt0)
  replace HBE := Lib.hid (HBE.out.trans (hb.mono HBE.out.size))
  have hlt1 := Nat.lt_of_lt_of_le hlt0 hb.size
  clear hb hlt0
  have q1 : decide (na ≤ 40) = true := decide_eq_true h40.1
  have q2 : decide (nb ≤ 40) = true := decide_eq_true h40.2.1
  have q3 : decide (nc ≤ 40) = true := decide_eq_true h40.2.2
  go_wp2_with fail
  refine (few_any xa na ca v1).mono ?_
  rintro e v2 ⟨rfl, rfl⟩
  rw [q1]
  go_wp2_with fail
  refine (few_any xb nb cb v1).mono ?_
  rintro e v2 ⟨rfl, rfl⟩
  rw [q2]
  go_wp2_with fail
  refine (few_any xc nc cc v1).mono ?_
  rintro e v2 ⟨rfl, rfl⟩
  rw [q3]
  clear q1 q2 q3
  have hc0 := HROW.out.cell0 0 (by simp)
  have hf0 := HROW.out.frozen0 0 (by simp)
  simp only [List.getElem_cons_zero] at hc0
  go_wp2_with fail
  refine (pick_at n_ 1073741824 1073741824 v1 (by omega) (by decide) (by decide)).mono ?_
  rintro e v2 ⟨rfl, rfl⟩
  obtain ⟨N, hN⟩ : ∃ N, N = pickN n_ 1073741824 := ⟨_, rfl⟩
  have HN : Hid (N ≤ 1073741824) := Lib.hid (by have := pickN_lt n_ 1073741824 (by decide); omega)
  rw [← hN]
  clear hN
  go_wp2_with fail
  have hsz : (v1.setCell ⟨bx, 0, none⟩ (.int .i64 (N : Int))).heap.size = v1.heap.size := by simp
  have hset : (v1.setCell ⟨bx, 0, none⟩ (.int .i64 (N : Int))).cell? ⟨bx, 0, none⟩ = some (.int .i64 (N : Int)) := World.cell?_setCell_same' _ _ _ (by rw [hc0]; rfl)
  have hal := (Below.refl (v1.setCell ⟨bx, 0, none⟩ (.int .i64 (N : Int))).heap.size (v1.setCell ⟨bx, 0, none⟩ (.int .i64 (N : Int)))).alloc (Nat.le_refl _) (.cells #[.int .i64 0, .int .i64 (N : Int)] 37)
  have hone := sp_one (v1.setCell ⟨bx, 0, none⟩ (.int .i64 (N : Int))) N
  have hbS := (HBE.out.setCell (p := ⟨bx, 0, none⟩) HBL.out (.int .i64 (N : Int))).trans (hal.mono (by rw [hsz]; exact HBE.out.size))
  have hcS := (hal.cell (p := ⟨bx, 0, none⟩) (by rw [hsz]; exact hlt1)).trans hset
  have hlS := Nat.lt_of_lt_of_le (by rw [hsz]; exact hlt1 : bx < (v1.setCell ⟨bx, 0, none⟩ (.int .i64 (N : Int))).heap.size) hal.size
  rw [hsz] at hone
  clear hal hset hsz hc0 hf0 HROW HBE
  generalize (v1.setCell ⟨bx, 0, none⟩ (.int .i64 (N : Int))).alloc (.cells #[.int .i64 0, .int .i64 (N : Int)] 37) = v2 at *
  have HX := Lib.hid hcS
  have HXL := Lib.hid hlS
  have HBE := Lib.hid hbS
  have HALL := Lib.hid hone
  clear hcS hlS hbS hone hlt1
  refine (And_R (K := 41) ((HLA.out.below HBE.out).up HBE.out.size) HALL.out (by omega) (by decide) (by omega)).mono ?_
  rintro e v3 ⟨pa, ma, xca, sa, rfl, Ha, hb⟩
  replace HX := Lib.hid ((hb.cell (p := ⟨bx, 0, none⟩) HXL.out).trans HX.out)
  replace HXL := Lib.hid (Nat.lt_of_lt_of_le HXL.out hb.size)
  replace HBE := Lib.hid (HBE.out.trans (hb.mono HBE.out.size))
  replace HALL := Lib.hid ((HALL.out.below hb).up hb.size)
  have HA : Hid (∀ k, 0 ≤ k → (Spans.has la k && Spans.has [(0, (N : Int))] k) = true → k < (N : Int)) := Lib.hid (in_all la N)
  obtain ⟨fA, hfA⟩ : ∃ fA : Int → Bool, fA = fun k => Spans.has la k && Spans.has [(0, (N : Int))] k := ⟨_, rfl⟩
  replace HA : Hid (∀ k, 0 ≤ k → fA k = true → k < (N : Int)) := by rw [hfA]; exact HA
  rw [← hfA] at Ha
  clear hb hfA HLA
  go_wp2_with fail
  refine (And_R (K := 41) ((HLB.out.below HBE.out).up HBE.out.size) HALL.out (by omega) (by decide) (by omega)).mono ?_
  rintro e v4 ⟨pb, mb, xcb, sb, rfl, Hb, hb⟩
  replace HX := Lib.hid ((hb.cell (p := ⟨bx, 0, none⟩) HXL.out).trans HX.out)
  replace HXL := Lib.hid (Nat.lt_of_lt_of_le HXL.out hb.size)
  replace HBE := Lib.hid (HBE.out.trans (hb.mono HBE.out.size))
  replace HALL := Lib.hid ((HALL.out.below hb).up hb.size)
  replace Ha := SpS.below' Ha hb
  have HB : Hid (∀ k, 0 ≤ k → (Spans.has lb k && Spans.has [(0, (N : Int))] k) = true → k < (N : Int)) := Lib.hid (in_all lb N)
  obtain ⟨fB, hfB⟩ : ∃ fB : Int → Bool, fB = fun k => Spans.has lb k && Spans.has [(0, (N : Int))] k := ⟨_, rfl⟩
  replace HB : Hid (∀ k, 0 ≤ k → fB k = true → k < (N : Int)) := by rw [hfB]; exact HB
  rw [← hfB] at Hb
  clear hb hfB HLB
  go_wp2_with fail
  refine (And_R (K := 41) ((HLC.out.below HBE.out).up HBE.out.size) HALL.out (by omega) (by decide) (by omega)).mono ?_
  rintro e v5 ⟨pc, mc, xcc, sc, rfl, Hc, hb⟩
  replace HX := Lib.hid ((hb.cell (p := ⟨bx, 0, none⟩) HXL.out).trans HX.out)
  replace HXL := Lib.hid (Nat.lt_of_lt_of_le HXL.out hb.size)
  replace HBE := Lib.hid (HBE.out.trans (hb.mono HBE.out.size))
  replace Ha := SpS.below' Ha hb
  replace Hb := SpS.below' Hb hb
  have HC : Hid (∀ k, 0 ≤ k → (Spans.has lc k && Spans.has [(0, (N : Int))] k) = true → k < (N : Int)) := Lib.hid (in_all lc N)
  obtain ⟨fC, hfC⟩ : ∃ fC : Int → Bool, fC = fun k => Spans.has lc k && Spans.has [(0, (N : Int))] k := ⟨_, rfl⟩
  replace HC : Hid (∀ k, 0 ≤ k → fC k = true → k < (N : Int)) := by rw [hfC]; exact HC
  rw [← hfC] at Hc
  clear hb hfC HLC HALL h40
  go_wp2_with fail
  have hd := (Below.refl v5.heap.size v5).drew
  replace Ha := SpS.below' Ha hd
  replace Hb := SpS.below' Hb hd
  replace Hc := SpS.below' Hc hd
  replace HBE := Lib.hid (HBE.out.trans (hd.mono HBE.out.size))
  have hx5 := HX.out
  replace HX : Hid (v5.drew.cell? ⟨bx, 0, none⟩ = some (.int .i64 (N : Int))) := HX
  replace HXL : Hid (bx < v5.drew.heap.size) := HXL
  clear hd
  dsimp only [List.append]
  refine wp_region_noPanic ?_
  refine wp_region_held_drew (S := fun w1 => w1.cell? ⟨bx, 0, none⟩ = some (.int .i64 (N : Int))) (by kernel_rfl) HX.out (fun hHeld => ?_)
  clear hx5
  refine wpAnyH_takeD (i := 0) (oi := ⟨some 42, _, _, _, _, _⟩) (d := some 42) (v := ?_) rfl rfl (by as_aux_lemma => kernel_rfl) (by as_aux_lemma => kernel_rfl) (by as_aux_lemma => kernel_rfl) (fun _ _ _ h => h) (Or.inl ⟨by rfl, ?_⟩) (by assumption) ?_
  rotate_left
  · (intro w hSw; (try dsimp only at hSw); go_simp) <;> with_reducible rfl
  try dsimp only [Act.put]
  try simp only [Act.put, List.setIfInBounds_toArray, List.set_cons_zero, List.set_cons_succ]
  refine wpAnyH_takeD (i := 1) (oi := ⟨some 43, _, _, _, _, _⟩) (d := some 43) (v := ?_) rfl rfl (by as_aux_lemma => kernel_rfl) (by as_aux_lemma => kernel_rfl) (by as_aux_lemma => kernel_rfl) (fun _ _ _ h => h) (Or.inl ⟨by rfl, ?_⟩) (by assumption) ?_
  rotate_left
  · (intro w hSw; (try dsimp only at hSw); go_simp) <;> with_reducible rfl
  try dsimp only [Act.put]
  try simp only [Act.put, List.setIfInBounds_toArray, List.set_cons_zero, List.set_cons_succ]
  refine wpAnyH_takeD (i := 2) (oi := ⟨some 44, _, _, _, _, _⟩) (d := some 44) (v := ?_) rfl rfl (by as_aux_lemma => kernel_rfl) (by as_aux_lemma => kernel_rfl) (by as_aux_lemma => kernel_rfl) (fun _ _ _ h => h) (Or.inl ⟨by rfl, ?_⟩) (by assumption) ?_
  rotate_left
  · (intro w hSw; (try dsimp only at hSw); go_simp) <;> with_reducible rfl
  try dsimp only [Act.put]
  try simp only [Act.put, List.setIfInBounds_toArray, List.set_cons_zero, List.set_cons_succ]
  refine wpAnyH_takeD (i := 3) (oi := ⟨some 45, _, _, _, _, _⟩) (d := some 45) (v := ?_) rfl rfl (by as_aux_lemma => kernel_rfl) (by as_aux_lemma => kernel_rfl) (by as_aux_lemma => kernel_rfl) (fun _ _ _ h => h) (Or.inl ⟨by rfl, ?_⟩) (by assumption) ?_
  rotate_left
  · (intro w hSw; (try dsimp only at hSw); go_simp) <;> with_reducible rfl
  try dsimp only [Act.put]
  try simp only [Act.put, List.setIfInBounds_toArray, List.set_cons_zero, List.set_cons_succ]
  refine wpAnyH_takeD (i := 6) (oi := ⟨some 48, _, _, _, _, _⟩) (d := some 48) (v := ?_) rfl rfl (by as_aux_lemma => kernel_rfl) (by as_aux_lemma => kernel_rfl) (by as_aux_lemma => kernel_rfl) (fun _ _ _ h => h) (Or.inl ⟨by rfl, ?_⟩) (by assumption) ?_
  rotate_left
  · (intro w hSw; (try dsimp only at hSw); go_simp) <;> with_reducible rfl
  try dsimp only [Act.put]
  try simp only [Act.put, List.setIfInBounds_toArray, List.set_cons_zero, List.set_cons_succ]
  refine wpAnyH_takeD (i := 7) (oi := ⟨some 49, _, _, _, _, _⟩) (d := some 49) (v := ?_) rfl rfl (by as_aux_lemma => kernel_rfl) (by as_aux_lemma => kernel_rfl) (by as_aux_lemma => kernel_rfl) (fun _ _ _ h => h) (Or.inl ⟨by rfl, ?_⟩) (by assumption) ?_
  rotate_left
  · (intro w hSw; (try dsimp only at hSw); go_simp) <;> with_reducible rfl
  try dsimp only [Act.put]
  try simp only [Act.put, List.setIfInBounds_toArray, List.set_cons_zero, List.set_cons_succ]
  refine wpAnyH_takeD (i := 9) (oi := ⟨some 51, _, _, _, _, _⟩) (d := some 51) (v := ?_) rfl rfl (by as_aux_lemma => kernel_rfl) (by as_aux_lemma => kernel_rfl) (by as_aux_lemma => kernel_rfl) (fun _ _ _ h => h) (Or.inl ⟨by rfl, ?_⟩) (by assumption) ?_
  rotate_left
  · (intro w hSw; (try dsimp only at hSw); go_simp) <;> with_reducible rfl
  try dsimp only [Act.put]
  try simp only [Act.put, List.setIfInBounds_toArray, List.set_cons_zero, List.set_cons_succ]
  refine wpAnyH_takeD (i := 10) (oi := ⟨some 52, _, _, _, _, _⟩) (d := some 52) (v := ?_) rfl rfl (by as_aux_lemma => kernel_rfl) (by as_aux_lemma => kernel_rfl) (by as_aux_lemma => kernel_rfl) (fun _ _ _ h => h) (Or.inl ⟨by rfl, ?_⟩) (by assumption) ?_
  rotate_left
  · (intro w hSw; (try dsimp only at hSw); go_simp) <;> with_reducible rfl
  try dsimp only [Act.put]
  try simp only [Act.put, List.setIfInBounds_toArray, List.set_cons_zero, List.set_cons_succ]
  refine wpAnyH_ready (rs := [4]) (by as_aux_lemma => kernel_rfl) (by simp) ?_
  refine AllReadyH.cons (o := ⟨some 46, _, _, _, _, _⟩) rfl (fun K hK => ?_) AllReadyH.nil
  go_simp
  go_at_call 22
  with_reducible refine (Or_S Ha Hb (by decide) (by decide)).mono ?_
  rintro e u0w ⟨po1, mo1, co1, Lo1, rfl, Ho1, hbX⟩
  replace HX := Lib.hid ((hbX.cell (p := ⟨bx, 0, none⟩) HXL.out).trans HX.out)
  replace HXL := Lib.hid (Nat.lt_of_lt_of_le HXL.out hbX.size)
  replace HBE := Lib.hid (HBE.out.trans (hbX.mono HBE.out.size))
  replace Ha := SpS.below' Ha hbX
  replace Hb := SpS.below' Hb hbX
  replace Hc := SpS.below' Hc hbX
  clear hbX 
  clear hHeld
  go_wp2_with fail
  refine hK.out _ _ HX.out (fun hHeld => ?_)
  clear hK K
  try simp only [Act.put, List.setIfInBounds_toArray, List.set_cons_zero, List.set_cons_succ]
  refine wpAnyH_ready (rs := [5]) (by as_aux_lemma => kernel_rfl) (by simp) ?_
  refine AllReadyH.cons (o := ⟨some 47, _, _, _, _, _⟩) rfl (fun K hK => ?_) AllReadyH.nil
  go_simp
  go_at_call 20
  with_reducible refine (notC_S (N : Int) bx HX.out Ho1 (by decide)).mono ?_
  rintro e u1w ⟨pn1, mn1, cn1, Ln1, rfl, Hn1, hbX⟩
  replace HX := Lib.hid ((hbX.cell (p := ⟨bx, 0, none⟩) HXL.out).trans HX.out)
  replace HXL := Lib.hid (Nat.lt_of_lt_of_le HXL.out hbX.size)
  replace HBE := Lib.hid (HBE.out.trans (hbX.mono HBE.out.size))
  replace Ha := SpS.below' Ha hbX
  replace Hb := SpS.below' Hb hbX
  replace Hc := SpS.below' Hc hbX
  clear hbX Ho1
  clear hHeld
  go_wp2_with fail
  refine hK.out _ _ HX.out (fun hHeld => ?_)
  clear hK K
  try simp only [Act.put, List.setIfInBounds_toArray, List.set_cons_zero, List.set_cons_succ]
  refine wpAnyH_ready (rs := [8]) (by as_aux_lemma => kernel_rfl) (by simp) ?_
  refine AllReadyH.cons (o := ⟨some 50, _, _, _, _, _⟩) rfl (fun K hK => ?_) AllReadyH.nil
  go_simp
  go_at_call 20
  with_reducible refine (notC_S (N : Int) bx HX.out Ha (by decide)).mono ?_
  rintro e u2w ⟨pn2, mn2, cn2, Ln2, rfl, Hn2, hbX⟩
  replace HX := Lib.hid ((hbX.cell (p := ⟨bx, 0, none⟩) HXL.out).trans HX.out)
  replace HXL := Lib.hid (Nat.lt_of_lt_of_le HXL.out hbX.size)
  replace HBE := Lib.hid (HBE.out.trans (hbX.mono HBE.out.size))
  replace Ha := SpS.below' Ha hbX
  replace Hb := SpS.below' Hb hbX
  replace Hc := SpS.below' Hc hbX
  replace Hn1 := SpS.below' Hn1 hbX
  clear hbX 
  clear hHeld
  go_wp2_with fail
  refine hK.out _ _ HX.out (fun hHeld => ?_)
  clear hK K
  try simp only [Act.put, List.setIfInBounds_toArray, List.set_cons_zero, List.set_cons_succ]
  refine wpAnyH_ready (rs := [11]) (by as_aux_lemma => kernel_rfl) (by simp) ?_
  refine AllReadyH.cons (o := ⟨some 53, _, _, _, _, _⟩) rfl (fun K hK => ?_) AllReadyH.nil
  go_simp
  go_at_call 20
  with_reducible refine (notC_S (N : Int) bx HX.out Hb (by decide)).mono ?_
  rintro e u3w ⟨pn3, mn3, cn3, Ln3, rfl, Hn3, hbX⟩
  replace HX := Lib.hid ((hbX.cell (p := ⟨bx, 0, none⟩) HXL.out).trans HX.out)
  replace HXL := Lib.hid (Nat.lt_of_lt_of_le HXL.out hbX.size)
  replace HBE := Lib.hid (HBE.out.trans (hbX.mono HBE.out.size))
  replace Ha := SpS.below' Ha hbX
  replace Hb := SpS.below' Hb hbX
  replace Hc := SpS.below' Hc hbX
  replace Hn1 := SpS.below' Hn1 hbX
  replace Hn2 := SpS.below' Hn2 hbX
  clear hbX 
  clear hHeld
  go_wp2_with fail
  refine hK.out _ _ HX.out (fun hHeld => ?_)
  clear hK K
  try simp only [Act.put, List.setIfInBounds_toArray, List.set_cons_zero, List.set_cons_succ]
  refine wpAnyH_ready (rs := [12]) (by as_aux_lemma => kernel_rfl) (by simp) ?_
  refine AllReadyH.cons (o := ⟨some 54, _, _, _, _, _⟩) rfl (fun K hK => ?_) AllReadyH.nil
  go_simp
  go_at_call 19
  with_reducible refine (And_S Hn2 Hn3 (by decide) (by decide)).mono ?_
  rintro e u4w ⟨pa1, ma1, ca1, La1, rfl, Ha1, hbX⟩
  replace HX := Lib.hid ((hbX.cell (p := ⟨bx, 0, none⟩) HXL.out).trans HX.out)
  replace HXL := Lib.hid (Nat.lt_of_lt_of_le HXL.out hbX.size)
  replace HBE := Lib.hid (HBE.out.trans (hbX.mono HBE.out.size))
  replace Ha := SpS.below' Ha hbX
  replace Hb := SpS.below' Hb hbX
  replace Hc := SpS.below' Hc hbX
  replace Hn1 := SpS.below' Hn1 hbX
  clear hbX Hn2 Hn3
  clear hHeld
  go_wp2_with fail
  refine hK.out _ _ HX.out (fun hHeld => ?_)
  clear hK K
  try simp only [Act.put, List.setIfInBounds_toArray, List.set_cons_zero, List.set_cons_succ]
  refine wpAnyH_ready (rs := [13]) (by as_aux_lemma => kernel_rfl) (by simp) ?_
  refine AllReadyH.cons (o := ⟨some 55, _, _, _, _, _⟩) rfl (fun K hK => ?_) AllReadyH.nil
  go_simp
  go_at_call 17
  with_reducible refine (Eq_S Hn1 Ha1 (by decide) (fun k hk => by have h1 := HA.out k hk; have h2 := HB.out k hk; have h3 := HC.out k hk; by_cases d : k < (N : Int) <;> cases hA : fA k <;> cases hB : fB k <;> cases hC : fC k <;> simp_all)).mono ?_
  rintro e u5w ⟨rfl, hbX⟩
  replace HX := Lib.hid ((hbX.cell (p := ⟨bx, 0, none⟩) HXL.out).trans HX.out)
  replace HXL := Lib.hid (Nat.lt_of_lt_of_le HXL.out hbX.size)
  replace HBE := Lib.hid (HBE.out.trans (hbX.mono HBE.out.size))
  replace Ha := SpS.below' Ha hbX
  replace Hb := SpS.below' Hb hbX
  replace Hc := SpS.below' Hc hbX
  clear hbX Hn1 Ha1
  clear hHeld
  go_wp2_with fail
  refine hK.out _ _ HX.out (fun hHeld => ?_)
  clear hK K
  try simp only [Act.put, List.setIfInBounds_toArray, List.set_cons_zero, List.set_cons_succ]
  as_aux_lemma =>
    refine wpAnyH_takeD (i := 14) (oi := ⟨some 56, _, _, _, _, _⟩) (d := some 56) (v := ?_) rfl rfl (by as_aux_lemma => kernel_rfl) (by as_aux_lemma => kernel_rfl) (by as_aux_lemma => kernel_rfl) (fun _ _ _ h => h) (Or.inl ⟨by rfl, ?_⟩) (by assumption) ?_
    rotate_left
    · (intro w hSw; (try dsimp only at hSw); go_simp) <;> with_reducible rfl
    try dsimp only [Act.put]
    try simp only [Act.put, List.setIfInBounds_toArray, List.set_cons_zero, List.set_cons_succ]
    refine wpAnyH_takeD (i := 15) (oi := ⟨some 57, _, _, _, _, _⟩) (d := some 57) (v := ?_) rfl rfl (by as_aux_lemma => kernel_rfl) (by as_aux_lemma => kernel_rfl) (by as_aux_lemma => kernel_rfl) (fun _ _ _ h => h) (Or.inl ⟨by rfl, ?_⟩) (by assumption) ?_
    rotate_left
    · (intro w hSw; (try dsimp only at hSw); go_simp) <;> with_reducible rfl
    try dsimp only [Act.put]
    try simp only [Act.put, List.setIfInBounds_toArray, List.set_cons_zero, List.set_cons_succ]
    refine wpAnyH_takeD (i := 16) (oi := ⟨some 58, _, _, _, _, _⟩) (d := some 58) (v := ?_) rfl rfl (by as_aux_lemma => kernel_rfl) (by as_aux_lemma => kernel_rfl) (by as_aux_lemma => kernel_rfl) (fun _ _ _ h => h) (Or.inl ⟨by rfl, ?_⟩) (by assumption) ?_
    rotate_left
    · (intro w hSw; (try dsimp only at hSw); go_simp) <;> with_reducible rfl
    try dsimp only [Act.put]
    try simp only [Act.put, List.setIfInBounds_toArray, List.set_cons_zero, List.set_cons_succ]
    refine wpAnyH_takeD (i := 17) (oi := ⟨some 59, _, _, _, _, _⟩) (d := some 59) (v := ?_) rfl rfl (by as_aux_lemma => kernel_rfl) (by as_aux_lemma => kernel_rfl) (by as_aux_lemma => kernel_rfl) (fun _ _ _ h => h) (Or.inl ⟨by rfl, ?_⟩) (by assumption) ?_
    rotate_left
    · (intro w hSw; (try dsimp only at hSw); go_simp) <;> with_reducible rfl
    try dsimp only [Act.put]
    try simp only [Act.put, List.setIfInBounds_toArray, List.set_cons_zero, List.set_cons_succ]
    refine wpAnyH_takeD (i := 18) (oi := ⟨some 60, _, _, _, _, _⟩) (d := some 60) (v := ?_) rfl rfl (by as_aux_lemma => kernel_rfl) (by as_aux_lemma => kernel_rfl) (by as_aux_lemma => kernel_rfl) (fun _ _ _ h => h) (Or.inl ⟨by rfl, ?_⟩) (by assumption) ?_
    rotate_left
    · (intro w hSw; (try dsimp only at hSw); go_simp) <;> with_reducible rfl
    try dsimp only [Act.put]
    try simp only [Act.put, List.setIfInBounds_toArray, List.set_cons_zero, List.set_cons_succ]
    refine wpAnyH_takeD (i := 21) (oi := ⟨some 63, _, _, _, _, _⟩) (d := some 63) (v := ?_) rfl rfl (by as_aux_lemma => kernel_rfl) (by as_aux_lemma => kernel_rfl) (by as_aux_lemma => kernel_rfl) (fun _ _ _ h => h) (Or.inl ⟨by rfl, ?_⟩) (by assumption) ?_
    rotate_left
    · (intro w hSw; (try dsimp only at hSw); go_simp) <;> with_reducible rfl
    try dsimp only [Act.put]
    try simp only [Act.put, List.setIfInBounds_toArray, List.set_cons_zero, List.set_cons_succ]
    refine wpAnyH_takeD (i := 22) (oi := ⟨some 64, _, _, _, _, _⟩) (d := some 64) (v := ?_) rfl rfl (by as_aux_lemma => kernel_rfl) (by as_aux_lemma => kernel_rfl) (by as_aux_lemma => kernel_rfl) (fun _ _ _ h => h) (Or.inl ⟨by rfl, ?_⟩) (by assumption) ?_
    rotate_left
    · (intro w hSw; (try dsimp only at hSw); go_simp) <;> with_reducible rfl
    try dsimp only [Act.put]
    try simp only [Act.put, List.setIfInBounds_toArray, List.set_cons_zero, List.set_cons_succ]
    refine wpAnyH_takeD (i := 24) (oi := ⟨some 66, _, _, _, _, _⟩) (d := some 66) (v := ?_) rfl rfl (by as_aux_lemma => kernel_rfl) (by as_aux_lemma => kernel_rfl) (by as_aux_lemma => kernel_rfl) (fun _ _ _ h => h) (Or.inl ⟨by rfl, ?_⟩) (by assumption) ?_
    rotate_left
    · (intro w hSw; (try dsimp only at hSw); go_simp) <;> with_reducible rfl
    try dsimp only [Act.put]
    try simp only [Act.put, List.setIfInBounds_toArray, List.set_cons_zero, List.set_cons_succ]
    refine wpAnyH_takeD (i := 25) (oi := ⟨some 67, _, _, _, _, _⟩) (d := some 67) (v := ?_) rfl rfl (by as_aux_lemma => kernel_rfl) (by as_aux_lemma => kernel_rfl) (by as_aux_lemma => kernel_rfl) (fun _ _ _ h => h) (Or.inl ⟨by rfl, ?_⟩) (by assumption) ?_
    rotate_left
    · (intro w hSw; (try dsimp only at hSw); go_simp) <;> with_reducible rfl
    try dsimp only [Act.put]
    try simp only [Act.put, List.setIfInBounds_toArray, List.set_cons_zero, List.set_cons_succ]
    refine wpAnyH_ready (rs := [19]) (by as_aux_lemma => kernel_rfl) (by simp) ?_
    refine AllReadyH.cons (o := ⟨some 61, _, _, _, _, _⟩) rfl (fun K hK => ?_) AllReadyH.nil
    go_simp
    go_at_call 19
    with_reducible refine (And_S Ha Hb (by decide) (by decide)).mono ?_
    rintro e u6w ⟨pa2, ma2, ca2, La2, rfl, Ha2, hbX⟩
    replace HX := Lib.hid ((hbX.cell (p := ⟨bx, 0, none⟩) HXL.out).trans HX.out)
    replace HXL := Lib.hid (Nat.lt_of_lt_of_le HXL.out hbX.size)
    replace HBE := Lib.hid (HBE.out.trans (hbX.mono HBE.out.size))
    replace Ha := SpS.below' Ha hbX
    replace Hb := SpS.below' Hb hbX
    replace Hc := SpS.below' Hc hbX
    clear hbX 
    clear hHeld
    go_wp2_with fail
    refine hK.out _ _ HX.out (fun hHeld => ?_)
    clear hK K
    try simp only [Act.put, List.setIfInBounds_toArray, List.set_cons_zero, List.set_cons_succ]
    refine wpAnyH_ready (rs := [20]) (by as_aux_lemma => kernel_rfl) (by simp) ?_
    refine AllReadyH.cons (o := ⟨some 62, _, _, _, _, _⟩) rfl (fun K hK => ?_) AllReadyH.nil
    go_simp
    go_at_call 20
    with_reducible refine (notC_S (N : Int) bx HX.out Ha2 (by decide)).mono ?_
    rintro e u7w ⟨pn4, mn4, cn4, Ln4, rfl, Hn4, hbX⟩
    replace HX := Lib.hid ((hbX.cell (p := ⟨bx, 0, none⟩) HXL.out).trans HX.out)
    replace HXL := Lib.hid (Nat.lt_of_lt_of_le HXL.out hbX.size)
    replace HBE := Lib.hid (HBE.out.trans (hbX.mono HBE.out.size))
    replace Ha := SpS.below' Ha hbX
    replace Hb := SpS.below' Hb hbX
    replace Hc := SpS.below' Hc hbX
    clear hbX Ha2
    clear hHeld
    go_wp2_with fail
    refine hK.out _ _ HX.out (fun hHeld => ?_)
    clear hK K
    try simp only [Act.put, List.setIfInBounds_toArray, List.set_cons_zero, List.set_cons_succ]
    refine wpAnyH_ready (rs := [23]) (by as_aux_lemma => kernel_rfl) (by simp) ?_
    refine AllReadyH.cons (o := ⟨some 65, _, _, _, _, _⟩) rfl (fun K hK => ?_) AllReadyH.nil
    go_simp
    go_at_call 20
    with_reducible refine (notC_S (N : Int) bx HX.out Ha (by decide)).mono ?_
    rintro e u8w ⟨pn5, mn5, cn5, Ln5, rfl, Hn5, hbX⟩
    replace HX := Lib.hid ((hbX.cell (p := ⟨bx, 0, none⟩) HXL.out).trans HX.out)
    replace HXL := Lib.hid (Nat.lt_of_lt_of_le HXL.out hbX.size)
    replace HBE := Lib.hid (HBE.out.trans (hbX.mono HBE.out.size))
    replace Ha := SpS.below' Ha hbX
    replace Hb := SpS.below' Hb hbX
    replace Hc := SpS.below' Hc hbX
    replace Hn4 := SpS.below' Hn4 hbX
    clear hbX 
    clear hHeld
    go_wp2_with fail
    refine hK.out _ _ HX.out (fun hHeld => ?_)
    clear hK K
    try simp only [Act.put, List.setIfInBounds_toArray, List.set_cons_zero, List.set_cons_succ]
    refine wpAnyH_ready (rs := [26]) (by as_aux_lemma => kernel_rfl) (by simp) ?_
    refine AllReadyH.cons (o := ⟨some 68, _, _, _, _, _⟩) rfl (fun K hK => ?_) AllReadyH.nil
    go_simp
    go_at_call 20
    with_reducible refine (notC_S (N : Int) bx HX.out Hb (by decide)).mono ?_
    rintro e u9w ⟨pn6, mn6, cn6, Ln6, rfl, Hn6, hbX⟩
    replace HX := Lib.hid ((hbX.cell (p := ⟨bx, 0, none⟩) HXL.out).trans HX.out)
    replace HXL := Lib.hid (Nat.lt_of_lt_of_le HXL.out hbX.size)
    replace HBE := Lib.hid (HBE.out.trans (hbX.mono HBE.out.size))
    replace Ha := SpS.below' Ha hbX
    replace Hb := SpS.below' Hb hbX
    replace Hc := SpS.below' Hc hbX
    replace Hn4 := SpS.below' Hn4 hbX
    replace Hn5 := SpS.below' Hn5 hbX
    clear hbX 
    clear hHeld
    go_wp2_with fail
    refine hK.out _ _ HX.out (fun hHeld => ?_)
    clear hK K
    try simp only [Act.put, List.setIfInBounds_toArray, List.set_cons_zero, List.set_cons_succ]
    refine wpAnyH_ready (rs := [27]) (by as_aux_lemma => kernel_rfl) (by simp) ?_
    refine AllReadyH.cons (o := ⟨some 69, _, _, _, _, _⟩) rfl (fun K hK => ?_) AllReadyH.nil
    go_simp
    go_at_call 22
    with_reducible refine (Or_S Hn5 Hn6 (by decide) (by decide)).mono ?_
    rintro e u10w ⟨po2, mo2, co2, Lo2, rfl, Ho2, hbX⟩
    replace HX := Lib.hid ((hbX.cell (p := ⟨bx, 0, none⟩) HXL.out).trans HX.out)
    replace HXL := Lib.hid (Nat.lt_of_lt_of_le HXL.out hbX.size)
    replace HBE := Lib.hid (HBE.out.trans (hbX.mono HBE.out.size))
    replace Ha := SpS.below' Ha hbX
    replace Hb := SpS.below' Hb hbX
    replace Hc := SpS.below' Hc hbX
    replace Hn4 := SpS.below' Hn4 hbX
    clear hbX Hn5 Hn6
    clear hHeld
    go_wp2_with fail
    refine hK.out _ _ HX.out (fun hHeld => ?_)
    clear hK K
    try simp only [Act.put, List.setIfInBounds_toArray, List.set_cons_zero, List.set_cons_succ]
    refine wpAnyH_ready (rs := [28]) (by as_aux_lemma => kernel_rfl) (by simp) ?_
    refine AllReadyH.cons (o := ⟨some 70, _, _, _, _, _⟩) rfl (fun K hK => ?_) AllReadyH.nil
    go_simp
    go_at_call 17
    with_reducible refine (Eq_S Hn4 Ho2 (by decide) (fun k hk => by have h1 := HA.out k hk; have h2 := HB.out k hk; have h3 := HC.out k hk; by_cases d : k < (N : Int) <;> cases hA : fA k <;> cases hB : fB k <;> cases hC : fC k <;> simp_all)).mono ?_
    rintro e u11w ⟨rfl, hbX⟩
    replace HX := Lib.hid ((hbX.cell (p := ⟨bx, 0, none⟩) HXL.out).trans HX.out)
    replace HXL := Lib.hid (Nat.lt_of_lt_of_le HXL.out hbX.size)
    replace HBE := Lib.hid (HBE.out.trans (hbX.mono HBE.out.size))
    replace Ha := SpS.below' Ha hbX
    replace Hb := SpS.below' Hb hbX
    replace Hc := SpS.below' Hc hbX
    clear hbX Hn4 Ho2
    clear hHeld
    go_wp2_with fail
    refine hK.out _ _ HX.out (fun hHeld => ?_)
    clear hK K
    try simp only [Act.put, List.setIfInBounds_toArray, List.set_cons_zero, List.set_cons_succ]
    as_aux_lemma =>
      refine wpAnyH_takeD (i := 29) (oi := ⟨some 71, _, _, _, _, _⟩) (d := some 71) (v := ?_) rfl rfl (by as_aux_lemma => kernel_rfl) (by as_aux_lemma => kernel_rfl) (by as_aux_lemma => kernel_rfl) (fun _ _ _ h => h) (Or.inl ⟨by rfl, ?_⟩) (by assumption) ?_
      rotate_left
      · (intro w hSw; (try dsimp only at hSw); go_simp) <;> with_reducible rfl
      try dsimp only [Act.put]
      try simp only [Act.put, List.setIfInBounds_toArray, List.set_cons_zero, List.set_cons_succ]
      refine wpAnyH_takeD (i := 30) (oi := ⟨some 72, _, _, _, _, _⟩) (d := some 72) (v := ?_) rfl rfl (by as_aux_lemma => kernel_rfl) (by as_aux_lemma => kernel_rfl) (by as_aux_lemma => kernel_rfl) (fun _ _ _ h => h) (Or.inl ⟨by rfl, ?_⟩) (by assumption) ?_
      rotate_left
      · (intro w hSw; (try dsimp only at hSw); go_simp) <;> with_reducible rfl
      try dsimp only [Act.put]
      try simp only [Act.put, List.setIfInBounds_toArray, List.set_cons_zero, List.set_cons_succ]
      refine wpAnyH_takeD (i := 31) (oi := ⟨some 73, _, _, _, _, _⟩) (d := some 73) (v := ?_) rfl rfl (by as_aux_lemma => kernel_rfl) (by as_aux_lemma => kernel_rfl) (by as_aux_lemma => kernel_rfl) (fun _ _ _ h => h) (Or.inl ⟨by rfl, ?_⟩) (by assumption) ?_
      rotate_left
      · (intro w hSw; (try dsimp only at hSw); go_simp) <;> with_reducible rfl
      try dsimp only [Act.put]
      try simp only [Act.put, List.setIfInBounds_toArray, List.set_cons_zero, List.set_cons_succ]
      refine wpAnyH_takeD (i := 32) (oi := ⟨some 74, _, _, _, _, _⟩) (d := some 74) (v := ?_) rfl rfl (by as_aux_lemma => kernel_rfl) (by as_aux_lemma => kernel_rfl) (by as_aux_lemma => kernel_rfl) (fun _ _ _ h => h) (Or.inl ⟨by rfl, ?_⟩) (by assumption) ?_
      rotate_left
      · (intro w hSw; (try dsimp only at hSw); go_simp) <;> with_reducible rfl
      try dsimp only [Act.put]
      try simp only [Act.put, List.setIfInBounds_toArray, List.set_cons_zero, List.set_cons_succ]
      refine wpAnyH_takeD (i := 33) (oi := ⟨some 75, _, _, _, _, _⟩) (d := some 75) (v := ?_) rfl rfl (by as_aux_lemma => kernel_rfl) (by as_aux_lemma => kernel_rfl) (by as_aux_lemma => kernel_rfl) (fun _ _ _ h => h) (Or.inl ⟨by rfl, ?_⟩) (by assumption) ?_
      rotate_left
      · (intro w hSw; (try dsimp only at hSw); go_simp) <;> with_reducible rfl
      try dsimp only [Act.put]
      try simp only [Act.put, List.setIfInBounds_toArray, List.set_cons_zero, List.set_cons_succ]
      refine wpAnyH_takeD (i := 34) (oi := ⟨some 76, _, _, _, _, _⟩) (d := some 76) (v := ?_) rfl rfl (by as_aux_lemma => kernel_rfl) (by as_aux_lemma => kernel_rfl) (by as_aux_lemma => kernel_rfl) (fun _ _ _ h => h) (Or.inl ⟨by rfl, ?_⟩) (by assumption) ?_
      rotate_left
      · (intro w hSw; (try dsimp only at hSw); go_simp) <;> with_reducible rfl
      try dsimp only [Act.put]
      try simp only [Act.put, List.setIfInBounds_toArray, List.set_cons_zero, List.set_cons_succ]
      refine wpAnyH_takeD (i := 37) (oi := ⟨some 79, _, _, _, _, _⟩) (d := some 79) (v := ?_) rfl rfl (by as_aux_lemma => kernel_rfl) (by as_aux_lemma => kernel_rfl) (by as_aux_lemma => kernel_rfl) (fun _ _ _ h => h) (Or.inl ⟨by rfl, ?_⟩) (by assumption) ?_
      rotate_left
      · (intro w hSw; (try dsimp only at hSw); go_simp) <;> with_reducible rfl
      try dsimp only [Act.put]
      try simp only [Act.put, List.setIfInBounds_toArray, List.set_cons_zero, List.set_cons_succ]
      refine wpAnyH_ready (rs := [35]) (by as_aux_lemma => kernel_rfl) (by simp) ?_
      refine AllReadyH.cons (o := ⟨some 77, _, _, _, _, _⟩) rfl (fun K hK => ?_) AllReadyH.nil
      go_simp
      go_at_call 20
      with_reducible refine (notC_S (N : Int) bx HX.out Ha (by decide)).mono ?_
      rintro e u12w ⟨pn7, mn7, cn7, Ln7, rfl, Hn7, hbX⟩
      replace HX := Lib.hid ((hbX.cell (p := ⟨bx, 0, none⟩) HXL.out).trans HX.out)
      replace HXL := Lib.hid (Nat.lt_of_lt_of_le HXL.out hbX.size)
      replace HBE := Lib.hid (HBE.out.trans (hbX.mono HBE.out.size))
      replace Ha := SpS.below' Ha hbX
      replace Hb := SpS.below' Hb hbX
      replace Hc := SpS.below' Hc hbX
      clear hbX 
      clear hHeld
      go_wp2_with fail
      refine hK.out _ _ HX.out (fun hHeld => ?_)
      clear hK K
      try simp only [Act.put, List.setIfInBounds_toArray, List.set_cons_zero, List.set_cons_succ]
      refine wpAnyH_ready (rs := [36]) (by as_aux_lemma => kernel_rfl) (by simp) ?_
      refine AllReadyH.cons (o := ⟨some 78, _, _, _, _, _⟩) rfl (fun K hK => ?_) AllReadyH.nil
      go_simp
      go_at_call 20
      with_reducible refine (notC_S (N : Int) bx HX.out Hn7 (by decide)).mono ?_
      rintro e u13w ⟨pn8, mn8, cn8, Ln8, rfl, Hn8, hbX⟩
      replace HX := Lib.hid ((hbX.cell (p := ⟨bx, 0, none⟩) HXL.out).trans HX.out)
      replace HXL := Lib.hid (Nat.lt_of_lt_of_le HXL.out hbX.size)
      replace HBE := Lib.hid (HBE.out.trans (hbX.mono HBE.out.size))
      replace Ha := SpS.below' Ha hbX
      replace Hb := SpS.below' Hb hbX
      replace Hc := SpS.below' Hc hbX
      clear hbX Hn7
      clear hHeld
      go_wp2_with fail
      refine hK.out _ _ HX.out (fun hHeld => ?_)
      clear hK K
      try simp only [Act.put, List.setIfInBounds_toArray, List.set_cons_zero, List.set_cons_succ]
      refine wpAnyH_ready (rs := [38]) (by as_aux_lemma => kernel_rfl) (by simp) ?_
      refine AllReadyH.cons (o := ⟨some 80, _, _, _, _, _⟩) rfl (fun K hK => ?_) AllReadyH.nil
      go_simp
      go_at_call 17
      with_reducible refine (Eq_S Hn8 Ha (by decide) (fun k hk => by have h1 := HA.out k hk; have h2 := HB.out k hk; have h3 := HC.out k hk; by_cases d : k < (N : Int) <;> cases hA : fA k <;> cases hB : fB k <;> cases hC : fC k <;> simp_all)).mono ?_
      rintro e u14w ⟨rfl, hbX⟩
      replace HX := Lib.hid ((hbX.cell (p := ⟨bx, 0, none⟩) HXL.out).trans HX.out)
      replace HXL := Lib.hid (Nat.lt_of_lt_of_le HXL.out hbX.size)
      replace HBE := Lib.hid (HBE.out.trans (hbX.mono HBE.out.size))
      replace Ha := SpS.below' Ha hbX
      replace Hb := SpS.below' Hb hbX
      replace Hc := SpS.below' Hc hbX
      clear hbX Hn8
      clear hHeld
      go_wp2_with fail
      refine hK.out _ _ HX.out (fun hHeld => ?_)
      clear hK K
      try simp only [Act.put, List.setIfInBounds_toArray, List.set_cons_zero, List.set_cons_succ]
      as_aux_lemma =>
        refine wpAnyH_takeD (i := 39) (oi := ⟨some 81, _, _, _, _, _⟩) (d := some 81) (v := ?_) rfl rfl (by as_aux_lemma => kernel_rfl) (by as_aux_lemma => kernel_rfl) (by as_aux_lemma => kernel_rfl) (fun _ _ _ h => h) (Or.inl ⟨by rfl, ?_⟩) (by assumption) ?_
        rotate_left
        · (intro w hSw; (try dsimp only at hSw); go_simp) <;> with_reducible rfl
        try dsimp only [Act.put]
        try simp only [Act.put, List.setIfInBounds_toArray, List.set_cons_zero, List.set_cons_succ]
        refine wpAnyH_takeD (i := 40) (oi := ⟨some 82, _, _, _, _, _⟩) (d := some 82) (v := ?_) rfl rfl (by as_aux_lemma => kernel_rfl) (by as_aux_lemma => kernel_rfl) (by as_aux_lemma => kernel_rfl) (fun _ _ _ h => h) (Or.inl ⟨by rfl, ?_⟩) (by assumption) ?_
        rotate_left
        · (intro w hSw; (try dsimp only at hSw); go_simp) <;> with_reducible rfl
        try dsimp only [Act.put]
        try simp only [Act.put, List.setIfInBounds_toArray, List.set_cons_zero, List.set_cons_succ]
        refine wpAnyH_takeD (i := 41) (oi := ⟨some 83, _, _, _, _, _⟩) (d := some 83) (v := ?_) rfl rfl (by as_aux_lemma => kernel_rfl) (by as_aux_lemma => kernel_rfl) (by as_aux_lemma => kernel_rfl) (fun _ _ _ h => h) (Or.inl ⟨by rfl, ?_⟩) (by assumption) ?_
        rotate_left
        · (intro w hSw; (try dsimp only at hSw); go_simp) <;> with_reducible rfl
        try dsimp only [Act.put]
        try simp only [Act.put, List.setIfInBounds_toArray, List.set_cons_zero, List.set_cons_succ]
        refine wpAnyH_takeD (i := 42) (oi := ⟨some 84, _, _, _, _, _⟩) (d := some 84) (v := ?_) rfl rfl (by as_aux_lemma => kernel_rfl) (by as_aux_lemma => kernel_rfl) (by as_aux_lemma => kernel_rfl) (fun _ _ _ h => h) (Or.inl ⟨by rfl, ?_⟩) (by assumption) ?_
        rotate_left
        · (intro w hSw; (try dsimp only at hSw); go_simp) <;> with_reducible rfl
        try dsimp only [Act.put]
        try simp only [Act.put, List.setIfInBounds_toArray, List.set_cons_zero, List.set_cons_succ]
        refine wpAnyH_takeD (i := 43) (oi := ⟨some 85, _, _, _, _, _⟩) (d := some 85) (v := ?_) rfl rfl (by as_aux_lemma => kernel_rfl) (by as_aux_lemma => kernel_rfl) (by as_aux_lemma => kernel_rfl) (fun _ _ _ h => h) (Or.inl ⟨by rfl, ?_⟩) (by assumption) ?_
        rotate_left
        · (intro w hSw; (try dsimp only at hSw); go_simp) <;> with_reducible rfl
        try dsimp only [Act.put]
        try simp only [Act.put, List.setIfInBounds_toArray, List.set_cons_zero, List.set_cons_succ]
        refine wpAnyH_takeD (i := 45) (oi := ⟨some 87, _, _, _, _, _⟩) (d := some 87) (v := ?_) rfl rfl (by as_aux_lemma => kernel_rfl) (by as_aux_lemma => kernel_rfl) (by as_aux_lemma => kernel_rfl) (fun _ _ _ h => h) (Or.inl ⟨by rfl, ?_⟩) (by assumption) ?_
        rotate_left
        · (intro w hSw; (try dsimp only at hSw); go_simp) <;> with_reducible rfl
        try dsimp only [Act.put]
        try simp only [Act.put, List.setIfInBounds_toArray, List.set_cons_zero, List.set_cons_succ]
        refine wpAnyH_takeD (i := 46) (oi := ⟨some 88, _, _, _, _, _⟩) (d := some 88) (v := ?_) rfl rfl (by as_aux_lemma => kernel_rfl) (by as_aux_lemma => kernel_rfl) (by as_aux_lemma => kernel_rfl) (fun _ _ _ h => h) (Or.inl ⟨by rfl, ?_⟩) (by assumption) ?_
        rotate_left
        · (intro w hSw; (try dsimp only at hSw); go_simp) <;> with_reducible rfl
        try dsimp only [Act.put]
        try simp only [Act.put, List.setIfInBounds_toArray, List.set_cons_zero, List.set_cons_succ]
        refine wpAnyH_ready (rs := [44]) (by as_aux_lemma => kernel_rfl) (by simp) ?_
        refine AllReadyH.cons (o := ⟨some 86, _, _, _, _, _⟩) rfl (fun K hK => ?_) AllReadyH.nil
        go_simp
        go_at_call 22
        with_reducible refine (Or_S Ha Hb (by decide) (by decide)).mono ?_
        rintro e u15w ⟨po3, mo3, co3, Lo3, rfl, Ho3, hbX⟩
        replace HX := Lib.hid ((hbX.cell (p := ⟨bx, 0, none⟩) HXL.out).trans HX.out)
        replace HXL := Lib.hid (Nat.lt_of_lt_of_le HXL.out hbX.size)
        replace HBE := Lib.hid (HBE.out.trans (hbX.mono HBE.out.size))
        replace Ha := SpS.below' Ha hbX
        replace Hb := SpS.below' Hb hbX
        replace Hc := SpS.below' Hc hbX
        clear hbX 
        clear hHeld
        go_wp2_with fail
        refine hK.out _ _ HX.out (fun hHeld => ?_)
        clear hK K
        try simp only [Act.put, List.setIfInBounds_toArray, List.set_cons_zero, List.set_cons_succ]
        refine wpAnyH_ready (rs := [47]) (by as_aux_lemma => kernel_rfl) (by simp) ?_
        refine AllReadyH.cons (o := ⟨some 89, _, _, _, _, _⟩) rfl (fun K hK => ?_) AllReadyH.nil
        go_simp
        go_at_call 22
        with_reducible refine (Or_S Hb Ha (by decide) (by decide)).mono ?_
        rintro e u16w ⟨po4, mo4, co4, Lo4, rfl, Ho4, hbX⟩
        replace HX := Lib.hid ((hbX.cell (p := ⟨bx, 0, none⟩) HXL.out).trans HX.out)
        replace HXL := Lib.hid (Nat.lt_of_lt_of_le HXL.out hbX.size)
        replace HBE := Lib.hid (HBE.out.trans (hbX.mono HBE.out.size))
        replace Ha := SpS.below' Ha hbX
        replace Hb := SpS.below' Hb hbX
        replace Hc := SpS.below' Hc hbX
        replace Ho3 := SpS.below' Ho3 hbX
        clear hbX 
        clear hHeld
        go_wp2_with fail
        refine hK.out _ _ HX.out (fun hHeld => ?_)
        clear hK K
        try simp only [Act.put, List.setIfInBounds_toArray, List.set_cons_zero, List.set_cons_succ]
        refine wpAnyH_ready (rs := [48]) (by as_aux_lemma => kernel_rfl) (by simp) ?_
        refine AllReadyH.cons (o := ⟨some 90, _, _, _, _, _⟩) rfl (fun K hK => ?_) AllReadyH.nil
        go_simp
        go_at_call 17
        with_reducible refine (Eq_S Ho3 Ho4 (by decide) (fun k hk => by have h1 := HA.out k hk; have h2 := HB.out k hk; have h3 := HC.out k hk; by_cases d : k < (N : Int) <;> cases hA : fA k <;> cases hB : fB k <;> cases hC : fC k <;> simp_all)).mono ?_
        rintro e u17w ⟨rfl, hbX⟩
        replace HX := Lib.hid ((hbX.cell (p := ⟨bx, 0, none⟩) HXL.out).trans HX.out)
        replace HXL := Lib.hid (Nat.lt_of_lt_of_le HXL.out hbX.size)
        replace HBE := Lib.hid (HBE.out.trans (hbX.mono HBE.out.size))
        replace Ha := SpS.below' Ha hbX
        replace Hb := SpS.below' Hb hbX
        replace Hc := SpS.below' Hc hbX
        clear hbX Ho3 Ho4
        clear hHeld
        go_wp2_with fail
        refine hK.out _ _ HX.out (fun hHeld => ?_)
        clear hK K
        try simp only [Act.put, List.setIfInBounds_toArray, List.set_cons_zero, List.set_cons_succ]
        as_aux_lemma =>
          refine wpAnyH_takeD (i := 49) (oi := ⟨some 91, _, _, _, _, _⟩) (d := some 91) (v := ?_) rfl rfl (by as_aux_lemma => kernel_rfl) (by as_aux_lemma => kernel_rfl) (by as_aux_lemma => kernel_rfl) (fun _ _ _ h => h) (Or.inl ⟨by rfl, ?_⟩) (by assumption) ?_
          rotate_left
          · (intro w hSw; (try dsimp only at hSw); go_simp) <;> with_reducible rfl
          try dsimp only [Act.put]
          try simp only [Act.put, List.setIfInBounds_toArray, List.set_cons_zero, List.set_cons_succ]
          refine wpAnyH_takeD (i := 50) (oi := ⟨some 92, _, _, _, _, _⟩) (d := some 92) (v := ?_) rfl rfl (by as_aux_lemma => kernel_rfl) (by as_aux_lemma => kernel_rfl) (by as_aux_lemma => kernel_rfl) (fun _ _ _ h => h) (Or.inl ⟨by rfl, ?_⟩) (by assumption) ?_
          rotate_left
          · (intro w hSw; (try dsimp only at hSw); go_simp) <;> with_reducible rfl
          try dsimp only [Act.put]
          try simp only [Act.put, List.setIfInBounds_toArray, List.set_cons_zero, List.set_cons_succ]
          refine wpAnyH_takeD (i := 51) (oi := ⟨some 93, _, _, _, _, _⟩) (d := some 93) (v := ?_) rfl rfl (by as_aux_lemma => kernel_rfl) (by as_aux_lemma => kernel_rfl) (by as_aux_lemma => kernel_rfl) (fun _ _ _ h => h) (Or.inl ⟨by rfl, ?_⟩) (by assumption) ?_
          rotate_left
          · (intro w hSw; (try dsimp only at hSw); go_simp) <;> with_reducible rfl
          try dsimp only [Act.put]
          try simp only [Act.put, List.setIfInBounds_toArray, List.set_cons_zero, List.set_cons_succ]
          refine wpAnyH_takeD (i := 52) (oi := ⟨some 94, _, _, _, _, _⟩) (d := some 94) (v := ?_) rfl rfl (by as_aux_lemma => kernel_rfl) (by as_aux_lemma => kernel_rfl) (by as_aux_lemma => kernel_rfl) (fun _ _ _ h => h) (Or.inl ⟨by rfl, ?_⟩) (by assumption) ?_
          rotate_left
          · (intro w hSw; (try dsimp only at hSw); go_simp) <;> with_reducible rfl
          try dsimp only [Act.put]
          try simp only [Act.put, List.setIfInBounds_toArray, List.set_cons_zero, List.set_cons_succ]
          refine wpAnyH_takeD (i := 53) (oi := ⟨some 95, _, _, _, _, _⟩) (d := some 95) (v := ?_) rfl rfl (by as_aux_lemma => kernel_rfl) (by as_aux_lemma => kernel_rfl) (by as_aux_lemma => kernel_rfl) (fun _ _ _ h => h) (Or.inl ⟨by rfl, ?_⟩) (by assumption) ?_
          rotate_left
          · (intro w hSw; (try dsimp only at hSw); go_simp) <;> with_reducible rfl
          try dsimp only [Act.put]
          try simp only [Act.put, List.setIfInBounds_toArray, List.set_cons_zero, List.set_cons_succ]
          refine wpAnyH_takeD (i := 54) (oi := ⟨some 96, _, _, _, _, _⟩) (d := some 96) (v := ?_) rfl rfl (by as_aux_lemma => kernel_rfl) (by as_aux_lemma => kernel_rfl) (by as_aux_lemma => kernel_rfl) (fun _ _ _ h => h) (Or.inl ⟨by rfl, ?_⟩) (by assumption) ?_
          rotate_left
          · (intro w hSw; (try dsimp only at hSw); go_simp) <;> with_reducible rfl
          try dsimp only [Act.put]
          try simp only [Act.put, List.setIfInBounds_toArray, List.set_cons_zero, List.set_cons_succ]
          refine wpAnyH_takeD (i := 57) (oi := ⟨some 99, _, _, _, _, _⟩) (d := some 99) (v := ?_) rfl rfl (by as_aux_lemma => kernel_rfl) (by as_aux_lemma => kernel_rfl) (by as_aux_lemma => kernel_rfl) (fun _ _ _ h => h) (Or.inl ⟨by rfl, ?_⟩) (by assumption) ?_
          rotate_left
          · (intro w hSw; (try dsimp only at hSw); go_simp) <;> with_reducible rfl
          try dsimp only [Act.put]
          try simp only [Act.put, List.setIfInBounds_toArray, List.set_cons_zero, List.set_cons_succ]
          refine wpAnyH_takeD (i := 58) (oi := ⟨some 100, _, _, _, _, _⟩) (d := some 100) (v := ?_) rfl rfl (by as_aux_lemma => kernel_rfl) (by as_aux_lemma => kernel_rfl) (by as_aux_lemma => kernel_rfl) (fun _ _ _ h => h) (Or.inl ⟨by rfl, ?_⟩) (by assumption) ?_
          rotate_left
          · (intro w hSw; (try dsimp only at hSw); go_simp) <;> with_reducible rfl
          try dsimp only [Act.put]
          try simp only [Act.put, List.setIfInBounds_toArray, List.set_cons_zero, List.set_cons_succ]
          refine wpAnyH_takeD (i := 60) (oi := ⟨some 102, _, _, _, _, _⟩) (d := some 102) (v := ?_) rfl rfl (by as_aux_lemma => kernel_rfl) (by as_aux_lemma => kernel_rfl) (by as_aux_lemma => kernel_rfl) (fun _ _ _ h => h) (Or.inl ⟨by rfl, ?_⟩) (by assumption) ?_
          rotate_left
          · (intro w hSw; (try dsimp only at hSw); go_simp) <;> with_reducible rfl
          try dsimp only [Act.put]
          try simp only [Act.put, List.setIfInBounds_toArray, List.set_cons_zero, List.set_cons_succ]
          refine wpAnyH_takeD (i := 61) (oi := ⟨some 103, _, _, _, _, _⟩) (d := some 103) (v := ?_) rfl rfl (by as_aux_lemma => kernel_rfl) (by as_aux_lemma => kernel_rfl) (by as_aux_lemma => kernel_rfl) (fun _ _ _ h => h) (Or.inl ⟨by rfl, ?_⟩) (by assumption) ?_
          rotate_left
          · (intro w hSw; (try dsimp only at hSw); go_simp) <;> with_reducible rfl
          try dsimp only [Act.put]
          try simp only [Act.put, List.setIfInBounds_toArray, List.set_cons_zero, List.set_cons_succ]
          refine wpAnyH_ready (rs := [55]) (by as_aux_lemma => kernel_rfl) (by simp) ?_
          refine AllReadyH.cons (o := ⟨some 97, _, _, _, _, _⟩) rfl (fun K hK => ?_) AllReadyH.nil
          go_simp
          go_at_call 22
          with_reducible refine (Or_S Hb Hc (by decide) (by decide)).mono ?_
          rintro e u18w ⟨po5, mo5, co5, Lo5, rfl, Ho5, hbX⟩
          replace HX := Lib.hid ((hbX.cell (p := ⟨bx, 0, none⟩) HXL.out).trans HX.out)
          replace HXL := Lib.hid (Nat.lt_of_lt_of_le HXL.out hbX.size)
          replace HBE := Lib.hid (HBE.out.trans (hbX.mono HBE.out.size))
          replace Ha := SpS.below' Ha hbX
          replace Hb := SpS.below' Hb hbX
          replace Hc := SpS.below' Hc hbX
          clear hbX 
          clear hHeld
          go_wp2_with fail
          refine hK.out _ _ HX.out (fun hHeld => ?_)
          clear hK K
          try simp only [Act.put, List.setIfInBounds_toArray, List.set_cons_zero, List.set_cons_succ]
          refine wpAnyH_ready (rs := [56]) (by as_aux_lemma => kernel_rfl) (by simp) ?_
          refine AllReadyH.cons (o := ⟨some 98, _, _, _, _, _⟩) rfl (fun K hK => ?_) AllReadyH.nil
          go_simp
          go_at_call 19
          with_reducible refine (And_S Ha Ho5 (by decide) (by decide)).mono ?_
          rintro e u19w ⟨pa3, ma3, ca3, La3, rfl, Ha3, hbX⟩
          replace HX := Lib.hid ((hbX.cell (p := ⟨bx, 0, none⟩) HXL.out).trans HX.out)
          replace HXL := Lib.hid (Nat.lt_of_lt_of_le HXL.out hbX.size)
          replace HBE := Lib.hid (HBE.out.trans (hbX.mono HBE.out.size))
          replace Ha := SpS.below' Ha hbX
          replace Hb := SpS.below' Hb hbX
          replace Hc := SpS.below' Hc hbX
          clear hbX Ho5
          clear hHeld
          go_wp2_with fail
          refine hK.out _ _ HX.out (fun hHeld => ?_)
          clear hK K
          try simp only [Act.put, List.setIfInBounds_toArray, List.set_cons_zero, List.set_cons_succ]
          refine wpAnyH_ready (rs := [59]) (by as_aux_lemma => kernel_rfl) (by simp) ?_
          refine AllReadyH.cons (o := ⟨some 101, _, _, _, _, _⟩) rfl (fun K hK => ?_) AllReadyH.nil
          go_simp
          go_at_call 19
          with_reducible refine (And_S Ha Hb (by decide) (by decide)).mono ?_
          rintro e u20w ⟨pa4, ma4, ca4, La4, rfl, Ha4, hbX⟩
          replace HX := Lib.hid ((hbX.cell (p := ⟨bx, 0, none⟩) HXL.out).trans HX.out)
          replace HXL := Lib.hid (Nat.lt_of_lt_of_le HXL.out hbX.size)
          replace HBE := Lib.hid (HBE.out.trans (hbX.mono HBE.out.size))
          replace Ha := SpS.below' Ha hbX
          replace Hb := SpS.below' Hb hbX
          replace Hc := SpS.below' Hc hbX
          replace Ha3 := SpS.below' Ha3 hbX
          clear hbX 
          clear hHeld
          go_wp2_with fail
          refine hK.out _ _ HX.out (fun hHeld => ?_)
          clear hK K
          try simp only [Act.put, List.setIfInBounds_toArray, List.set_cons_zero, List.set_cons_succ]
          refine wpAnyH_ready (rs := [62]) (by as_aux_lemma => kernel_rfl) (by simp) ?_
          refine AllReadyH.cons (o := ⟨some 104, _, _, _, _, _⟩) rfl (fun K hK => ?_) AllReadyH.nil
          go_simp
          go_at_call 19
          with_reducible refine (And_S Ha Hc (by decide) (by decide)).mono ?_
          rintro e u21w ⟨pa5, ma5, ca5, La5, rfl, Ha5, hbX⟩
          replace HX := Lib.hid ((hbX.cell (p := ⟨bx, 0, none⟩) HXL.out).trans HX.out)
          replace HXL := Lib.hid (Nat.lt_of_lt_of_le HXL.out hbX.size)
          replace HBE := Lib.hid (HBE.out.trans (hbX.mono HBE.out.size))
          replace Ha := SpS.below' Ha hbX
          replace Hb := SpS.below' Hb hbX
          replace Ha3 := SpS.below' Ha3 hbX
          replace Ha4 := SpS.below' Ha4 hbX
          clear hbX Hc
          clear hHeld
          go_wp2_with fail
          refine hK.out _ _ HX.out (fun hHeld => ?_)
          clear hK K
          try simp only [Act.put, List.setIfInBounds_toArray, List.set_cons_zero, List.set_cons_succ]
          refine wpAnyH_ready (rs := [63]) (by as_aux_lemma => kernel_rfl) (by simp) ?_
          refine AllReadyH.cons (o := ⟨some 105, _, _, _, _, _⟩) rfl (fun K hK => ?_) AllReadyH.nil
          go_simp
          go_at_call 22
          with_reducible refine (Or_S Ha4 Ha5 (by decide) (by decide)).mono ?_
          rintro e u22w ⟨po6, mo6, co6, Lo6, rfl, Ho6, hbX⟩
          replace HX := Lib.hid ((hbX.cell (p := ⟨bx, 0, none⟩) HXL.out).trans HX.out)
          replace HXL := Lib.hid (Nat.lt_of_lt_of_le HXL.out hbX.size)
          replace HBE := Lib.hid (HBE.out.trans (hbX.mono HBE.out.size))
          replace Ha := SpS.below' Ha hbX
          replace Hb := SpS.below' Hb hbX
          replace Ha3 := SpS.below' Ha3 hbX
          clear hbX Ha4 Ha5
          clear hHeld
          go_wp2_with fail
          refine hK.out _ _ HX.out (fun hHeld => ?_)
          clear hK K
          try simp only [Act.put, List.setIfInBounds_toArray, List.set_cons_zero, List.set_cons_succ]
          refine wpAnyH_ready (rs := [64]) (by as_aux_lemma => kernel_rfl) (by simp) ?_
          refine AllReadyH.cons (o := ⟨some 106, _, _, _, _, _⟩) rfl (fun K hK => ?_) AllReadyH.nil
          go_simp
          go_at_call 17
          with_reducible refine (Eq_S Ha3 Ho6 (by decide) (fun k hk => by have h1 := HA.out k hk; have h2 := HB.out k hk; have h3 := HC.out k hk; by_cases d : k < (N : Int) <;> cases hA : fA k <;> cases hB : fB k <;> cases hC : fC k <;> simp_all)).mono ?_
          rintro e u23w ⟨rfl, hbX⟩
          replace HX := Lib.hid ((hbX.cell (p := ⟨bx, 0, none⟩) HXL.out).trans HX.out)
          replace HXL := Lib.hid (Nat.lt_of_lt_of_le HXL.out hbX.size)
          replace HBE := Lib.hid (HBE.out.trans (hbX.mono HBE.out.size))
          replace Ha := SpS.below' Ha hbX
          replace Hb := SpS.below' Hb hbX
          clear hbX Ha3 Ho6
          clear hHeld
          go_wp2_with fail
          refine hK.out _ _ HX.out (fun hHeld => ?_)
          clear hK K
          try simp only [Act.put, List.setIfInBounds_toArray, List.set_cons_zero, List.set_cons_succ]
          as_aux_lemma =>
            refine wpAnyH_takeD (i := 65) (oi := ⟨some 107, _, _, _, _, _⟩) (d := some 107) (v := ?_) rfl rfl (by as_aux_lemma => kernel_rfl) (by as_aux_lemma => kernel_rfl) (by as_aux_lemma => kernel_rfl) (fun _ _ _ h => h) (Or.inl ⟨by rfl, ?_⟩) (by assumption) ?_
            rotate_left
            · (intro w hSw; (try dsimp only at hSw); go_simp) <;> with_reducible rfl
            try dsimp only [Act.put]
            try simp only [Act.put, List.setIfInBounds_toArray, List.set_cons_zero, List.set_cons_succ]
            refine wpAnyH_takeD (i := 66) (oi := ⟨some 108, _, _, _, _, _⟩) (d := some 108) (v := ?_) rfl rfl (by as_aux_lemma => kernel_rfl) (by as_aux_lemma => kernel_rfl) (by as_aux_lemma => kernel_rfl) (fun _ _ _ h => h) (Or.inl ⟨by rfl, ?_⟩) (by assumption) ?_
            rotate_left
            · (intro w hSw; (try dsimp only at hSw); go_simp) <;> with_reducible rfl
            try dsimp only [Act.put]
            try simp only [Act.put, List.setIfInBounds_toArray, List.set_cons_zero, List.set_cons_succ]
            refine wpAnyH_takeD (i := 67) (oi := ⟨some 109, _, _, _, _, _⟩) (d := some 109) (v := ?_) rfl rfl (by as_aux_lemma => kernel_rfl) (by as_aux_lemma => kernel_rfl) (by as_aux_lemma => kernel_rfl) (fun _ _ _ h => h) (Or.inl ⟨by rfl, ?_⟩) (by assumption) ?_
            rotate_left
            · (intro w hSw; (try dsimp only at hSw); go_simp) <;> with_reducible rfl
            try dsimp only [Act.put]
            try simp only [Act.put, List.setIfInBounds_toArray, List.set_cons_zero, List.set_cons_succ]
            refine wpAnyH_takeD (i := 68) (oi := ⟨some 110, _, _, _, _, _⟩) (d := some 110) (v := ?_) rfl rfl (by as_aux_lemma => kernel_rfl) (by as_aux_lemma => kernel_rfl) (by as_aux_lemma => kernel_rfl) (fun _ _ _ h => h) (Or.inl ⟨by rfl, ?_⟩) (by assumption) ?_
            rotate_left
            · (intro w hSw; (try dsimp only at hSw); go_simp) <;> with_reducible rfl
            try dsimp only [Act.put]
            try simp only [Act.put, List.setIfInBounds_toArray, List.set_cons_zero, List.set_cons_succ]
            refine wpAnyH_takeD (i := 69) (oi := ⟨some 111, _, _, _, _, _⟩) (d := some 111) (v := ?_) rfl rfl (by as_aux_lemma => kernel_rfl) (by as_aux_lemma => kernel_rfl) (by as_aux_lemma => kernel_rfl) (fun _ _ _ h => h) (Or.inl ⟨by rfl, ?_⟩) (by assumption) ?_
            rotate_left
            · (intro w hSw; (try dsimp only at hSw); go_simp) <;> with_reducible rfl
            try dsimp only [Act.put]
            try simp only [Act.put, List.setIfInBounds_toArray, List.set_cons_zero, List.set_cons_succ]
            refine wpAnyH_takeD (i := 70) (oi := ⟨some 112, _, _, _, _, _⟩) (d := some 112) (v := ?_) rfl rfl (by as_aux_lemma => kernel_rfl) (by as_aux_lemma => kernel_rfl) (by as_aux_lemma => kernel_rfl) (fun _ _ _ h => h) (Or.inl ⟨by rfl, ?_⟩) (by assumption) ?_
            rotate_left
            · (intro w hSw; (try dsimp only at hSw); go_simp) <;> with_reducible rfl
            try dsimp only [Act.put]
            try simp only [Act.put, List.setIfInBounds_toArray, List.set_cons_zero, List.set_cons_succ]
            refine wpAnyH_takeD (i := 73) (oi := ⟨some 115, _, _, _, _, _⟩) (d := some 115) (v := ?_) rfl rfl (by as_aux_lemma => kernel_rfl) (by as_aux_lemma => kernel_rfl) (by as_aux_lemma => kernel_rfl) (fun _ _ _ h => h) (Or.inl ⟨by rfl, ?_⟩) (by assumption) ?_
            rotate_left
            · (intro w hSw; (try dsimp only at hSw); go_simp) <;> with_reducible rfl
            try dsimp only [Act.put]
            try simp only [Act.put, List.setIfInBounds_toArray, List.set_cons_zero, List.set_cons_succ]
            refine wpAnyH_ready (rs := [71]) (by as_aux_lemma => kernel_rfl) (by simp) ?_
            refine AllReadyH.cons (o := ⟨some 113, _, _, _, _, _⟩) rfl (fun K hK => ?_) AllReadyH.nil
            go_simp
            go_at_call 19
            with_reducible refine (And_S Ha Hb (by decide) (by decide)).mono ?_
            rintro e u24w ⟨pa6, ma6, ca6, La6, rfl, Ha6, hbX⟩
            replace HX := Lib.hid ((hbX.cell (p := ⟨bx, 0, none⟩) HXL.out).trans HX.out)
            replace HXL := Lib.hid (Nat.lt_of_lt_of_le HXL.out hbX.size)
            replace HBE := Lib.hid (HBE.out.trans (hbX.mono HBE.out.size))
            replace Ha := SpS.below' Ha hbX
            replace Hb := SpS.below' Hb hbX
            clear hbX 
            clear hHeld
            go_wp2_with fail
            refine hK.out _ _ HX.out (fun hHeld => ?_)
            clear hK K
            try simp only [Act.put, List.setIfInBounds_toArray, List.set_cons_zero, List.set_cons_succ]
            refine wpAnyH_ready (rs := [72]) (by as_aux_lemma => kernel_rfl) (by simp) ?_
            refine AllReadyH.cons (o := ⟨some 114, _, _, _, _, _⟩) rfl (fun K hK => ?_) AllReadyH.nil
            go_simp
            go_at_call 22
            with_reducible refine (Or_S Ha Ha6 (by decide) (by decide)).mono ?_
            rintro e u25w ⟨po7, mo7, co7, Lo7, rfl, Ho7, hbX⟩
            replace HX := Lib.hid ((hbX.cell (p := ⟨bx, 0, none⟩) HXL.out).trans HX.out)
            replace HXL := Lib.hid (Nat.lt_of_lt_of_le HXL.out hbX.size)
            replace HBE := Lib.hid (HBE.out.trans (hbX.mono HBE.out.size))
            replace Ha := SpS.below' Ha hbX
            replace Hb := SpS.below' Hb hbX
            clear hbX Ha6
            clear hHeld
            go_wp2_with fail
            refine hK.out _ _ HX.out (fun hHeld => ?_)
            clear hK K
            try simp only [Act.put, List.setIfInBounds_toArray, List.set_cons_zero, List.set_cons_succ]
            refine wpAnyH_ready (rs := [74]) (by as_aux_lemma => kernel_rfl) (by simp) ?_
            refine AllReadyH.cons (o := ⟨some 116, _, _, _, _, _⟩) rfl (fun K hK => ?_) AllReadyH.nil
            go_simp
            go_at_call 15
            with_reducible refine (Of_S Ha (by decide)).mono ?_
            rintro e u26w ⟨pf1, mf1, cf1, Lf1, rfl, Hf1, hbX⟩
            replace HX := Lib.hid ((hbX.cell (p := ⟨bx, 0, none⟩) HXL.out).trans HX.out)
            replace HXL := Lib.hid (Nat.lt_of_lt_of_le HXL.out hbX.size)
            replace HBE := Lib.hid (HBE.out.trans (hbX.mono HBE.out.size))
            replace Ha := SpS.below' Ha hbX
            replace Hb := SpS.below' Hb hbX
            replace Ho7 := SpS.below' Ho7 hbX
            clear hbX 
            clear hHeld
            go_wp2_with fail
            refine hK.out _ _ HX.out (fun hHeld => ?_)
            clear hK K
            try simp only [Act.put, List.setIfInBounds_toArray, List.set_cons_zero, List.set_cons_succ]
            refine wpAnyH_ready (rs := [75]) (by as_aux_lemma => kernel_rfl) (by simp) ?_
            refine AllReadyH.cons (o := ⟨some 117, _, _, _, _, _⟩) rfl (fun K hK => ?_) AllReadyH.nil
            go_simp
            go_at_call 17
            with_reducible refine (Eq_S Ho7 Hf1 (by decide) (fun k hk => by have h1 := HA.out k hk; have h2 := HB.out k hk; have h3 := HC.out k hk; by_cases d : k < (N : Int) <;> cases hA : fA k <;> cases hB : fB k <;> cases hC : fC k <;> simp_all)).mono ?_
            rintro e u27w ⟨rfl, hbX⟩
            replace HX := Lib.hid ((hbX.cell (p := ⟨bx, 0, none⟩) HXL.out).trans HX.out)
            replace HXL := Lib.hid (Nat.lt_of_lt_of_le HXL.out hbX.size)
            replace HBE := Lib.hid (HBE.out.trans (hbX.mono HBE.out.size))
            replace Ha := SpS.below' Ha hbX
            replace Hb := SpS.below' Hb hbX
            clear hbX Ho7 Hf1
            clear hHeld
            go_wp2_with fail
            refine hK.out _ _ HX.out (fun hHeld => ?_)
            clear hK K
            try simp only [Act.put, List.setIfInBounds_toArray, List.set_cons_zero, List.set_cons_succ]
            as_aux_lemma =>
              refine wpAnyH_takeD (i := 76) (oi := ⟨some 118, _, _, _, _, _⟩) (d := some 118) (v := ?_) rfl rfl (by as_aux_lemma => kernel_rfl) (by as_aux_lemma => kernel_rfl) (by as_aux_lemma => kernel_rfl) (fun _ _ _ h => h) (Or.inl ⟨by rfl, ?_⟩) (by assumption) ?_
              rotate_left
              · (intro w hSw; (try dsimp only at hSw); go_simp) <;> with_reducible rfl
              try dsimp only [Act.put]
              try simp only [Act.put, List.setIfInBounds_toArray, List.set_cons_zero, List.set_cons_succ]
              refine wpAnyH_takeD (i := 77) (oi := ⟨some 119, _, _, _, _, _⟩) (d := some 119) (v := ?_) rfl rfl (by as_aux_lemma => kernel_rfl) (by as_aux_lemma => kernel_rfl) (by as_aux_lemma => kernel_rfl) (fun _ _ _ h => h) (Or.inl ⟨by rfl, ?_⟩) (by assumption) ?_
              rotate_left
              · (intro w hSw; (try dsimp only at hSw); go_simp) <;> with_reducible rfl
              try dsimp only [Act.put]
              try simp only [Act.put, List.setIfInBounds_toArray, List.set_cons_zero, List.set_cons_succ]
              refine wpAnyH_takeD (i := 78) (oi := ⟨some 120, _, _, _, _, _⟩) (d := some 120) (v := ?_) rfl rfl (by as_aux_lemma => kernel_rfl) (by as_aux_lemma => kernel_rfl) (by as_aux_lemma => kernel_rfl) (fun _ _ _ h => h) (Or.inl ⟨by rfl, ?_⟩) (by assumption) ?_
              rotate_left
              · (intro w hSw; (try dsimp only at hSw); go_simp) <;> with_reducible rfl
              try dsimp only [Act.put]
              try simp only [Act.put, List.setIfInBounds_toArray, List.set_cons_zero, List.set_cons_succ]
              refine wpAnyH_takeD (i := 80) (oi := ⟨some 122, _, _, _, _, _⟩) (d := some 122) (v := ?_) rfl rfl (by as_aux_lemma => kernel_rfl) (by as_aux_lemma => kernel_rfl) (by as_aux_lemma => kernel_rfl) (fun _ _ _ h => h) (Or.inl ⟨by rfl, ?_⟩) (by assumption) ?_
              rotate_left
              · (intro w hSw; (try dsimp only at hSw); go_simp) <;> with_reducible rfl
              try dsimp only [Act.put]
              try simp only [Act.put, List.setIfInBounds_toArray, List.set_cons_zero, List.set_cons_succ]
              refine wpAnyH_takeD (i := 83) (oi := ⟨some 125, _, _, _, _, _⟩) (d := some 125) (v := ?_) rfl rfl (by as_aux_lemma => kernel_rfl) (by as_aux_lemma => kernel_rfl) (by as_aux_lemma => kernel_rfl) (fun _ _ _ h => h) (Or.inl ⟨by rfl, ?_⟩) (by assumption) ?_
              rotate_left
              · (intro w hSw; (try dsimp only at hSw); go_simp) <;> with_reducible rfl
              try dsimp only [Act.put]
              try simp only [Act.put, List.setIfInBounds_toArray, List.set_cons_zero, List.set_cons_succ]
              refine wpAnyH_takeD (i := 84) (oi := ⟨some 126, _, _, _, _, _⟩) (d := some 126) (v := ?_) rfl rfl (by as_aux_lemma => kernel_rfl) (by as_aux_lemma => kernel_rfl) (by as_aux_lemma => kernel_rfl) (fun _ _ _ h => h) (Or.inl ⟨by rfl, ?_⟩) (by assumption) ?_
              rotate_left
              · (intro w hSw; (try dsimp only at hSw); go_simp) <;> with_reducible rfl
              try dsimp only [Act.put]
              try simp only [Act.put, List.setIfInBounds_toArray, List.set_cons_zero, List.set_cons_succ]
              refine wpAnyH_takeD (i := 87) (oi := ⟨some 129, _, _, _, _, _⟩) (d := some 129) (v := ?_) rfl rfl (by as_aux_lemma => kernel_rfl) (by as_aux_lemma => kernel_rfl) (by as_aux_lemma => kernel_rfl) (fun _ _ _ h => h) (Or.inl ⟨by rfl, ?_⟩) (by assumption) ?_
              rotate_left
              · (intro w hSw; (try dsimp only at hSw); go_simp) <;> with_reducible rfl
              try dsimp only [Act.put]
              try simp only [Act.put, List.setIfInBounds_toArray, List.set_cons_zero, List.set_cons_succ]
              refine wpAnyH_takeD (i := 88) (oi := ⟨some 130, _, _, _, _, _⟩) (d := some 130) (v := ?_) rfl rfl (by as_aux_lemma => kernel_rfl) (by as_aux_lemma => kernel_rfl) (by as_aux_lemma => kernel_rfl) (fun _ _ _ h => h) (Or.inl ⟨by rfl, ?_⟩) (by assumption) ?_
              rotate_left
              · (intro w hSw; (try dsimp only at hSw); go_simp) <;> with_reducible rfl
              try dsimp only [Act.put]
              try simp only [Act.put, List.setIfInBounds_toArray, List.set_cons_zero, List.set_cons_succ]
              refine wpAnyH_ready (rs := [79]) (by as_aux_lemma => kernel_rfl) (by simp) ?_
              refine AllReadyH.cons (o := ⟨some 121, _, _, _, _, _⟩) rfl (fun K hK => ?_) AllReadyH.nil
              go_simp
              go_at_call 23
              with_reducible refine (Size_S N HN.out Ha (by decide) (fun k hk h => by have h1 := HA.out k hk; have h2 := HB.out k hk; by_cases d : k < (N : Int) <;> cases hA : fA k <;> cases hB : fB k <;> simp_all)).mono ?_
              rintro e u28w ⟨s1, rfl, Es1, ls1, gs1, hbX⟩
              replace HX := Lib.hid ((hbX.cell (p := ⟨bx, 0, none⟩) HXL.out).trans HX.out)
              replace HXL := Lib.hid (Nat.lt_of_lt_of_le HXL.out hbX.size)
              replace HBE := Lib.hid (HBE.out.trans (hbX.mono HBE.out.size))
              replace Ha := SpS.below' Ha hbX
              replace Hb := SpS.below' Hb hbX
              clear hbX 
              clear hHeld
              go_wp2_with fail
              refine hK.out _ _ HX.out (fun hHeld => ?_)
              clear hK K
              try simp only [Act.put, List.setIfInBounds_toArray, List.set_cons_zero, List.set_cons_succ]
              refine wpAnyH_ready (rs := [81]) (by as_aux_lemma => kernel_rfl) (by simp) ?_
              refine AllReadyH.cons (o := ⟨some 123, _, _, _, _, _⟩) rfl (fun K hK => ?_) AllReadyH.nil
              go_simp
              go_at_call 23
              with_reducible refine (Size_S N HN.out Hb (by decide) (fun k hk h => by have h1 := HA.out k hk; have h2 := HB.out k hk; by_cases d : k < (N : Int) <;> cases hA : fA k <;> cases hB : fB k <;> simp_all)).mono ?_
              rintro e u29w ⟨s2, rfl, Es2, ls2, gs2, hbX⟩
              replace HX := Lib.hid ((hbX.cell (p := ⟨bx, 0, none⟩) HXL.out).trans HX.out)
              replace HXL := Lib.hid (Nat.lt_of_lt_of_le HXL.out hbX.size)
              replace HBE := Lib.hid (HBE.out.trans (hbX.mono HBE.out.size))
              replace Ha := SpS.below' Ha hbX
              replace Hb := SpS.below' Hb hbX
              clear hbX 
              clear hHeld
              go_wp2_with fail
              refine hK.out _ _ HX.out (fun hHeld => ?_)
              clear hK K
              try simp only [Act.put, List.setIfInBounds_toArray, List.set_cons_zero, List.set_cons_succ]
              have q1 : IntKind.i64.wrap (s1 + s2) = s1 + s2 := wrapI_small _ (by omega) (by omega)
              refine wpAnyH_takeD (i := 82) (oi := ⟨some 124, _, _, _, _, _⟩) (d := some 124) (v := ?_) rfl rfl (by as_aux_lemma => kernel_rfl) (by as_aux_lemma => kernel_rfl) (by as_aux_lemma => kernel_rfl) (fun _ _ _ h => h) (Or.inl ⟨by rfl, ?_⟩) (by assumption) ?_
              rotate_left
              · (intro w hSw; (try dsimp only at hSw); go_simp) <;> with_reducible rfl
              try dsimp only [Act.put]
              try simp only [Act.put, List.setIfInBounds_toArray, List.set_cons_zero, List.set_cons_succ]
              refine wpAnyH_ready (rs := [85]) (by as_aux_lemma => kernel_rfl) (by simp) ?_
              refine AllReadyH.cons (o := ⟨some 127, _, _, _, _, _⟩) rfl (fun K hK => ?_) AllReadyH.nil
              go_simp
              go_at_call 22
              with_reducible refine (Or_S Ha Hb (by decide) (by decide)).mono ?_
              rintro e u30w ⟨po8, mo8, co8, Lo8, rfl, Ho8, hbX⟩
              replace HX := Lib.hid ((hbX.cell (p := ⟨bx, 0, none⟩) HXL.out).trans HX.out)
              replace HXL := Lib.hid (Nat.lt_of_lt_of_le HXL.out hbX.size)
              replace HBE := Lib.hid (HBE.out.trans (hbX.mono HBE.out.size))
              replace Ha := SpS.below' Ha hbX
              replace Hb := SpS.below' Hb hbX
              clear hbX 
              clear hHeld
              go_wp2_with fail
              refine hK.out _ _ HX.out (fun hHeld => ?_)
              clear hK K
              try simp only [Act.put, List.setIfInBounds_toArray, List.set_cons_zero, List.set_cons_succ]
              refine wpAnyH_ready (rs := [86]) (by as_aux_lemma => kernel_rfl) (by simp) ?_
              refine AllReadyH.cons (o := ⟨some 128, _, _, _, _, _⟩) rfl (fun K hK => ?_) AllReadyH.nil
              go_simp
              go_at_call 23
              with_reducible refine (Size_S N HN.out Ho8 (by decide) (fun k hk h => by have h1 := HA.out k hk; have h2 := HB.out k hk; by_cases d : k < (N : Int) <;> cases hA : fA k <;> cases hB : fB k <;> simp_all)).mono ?_
              rintro e u31w ⟨s3, rfl, Es3, ls3, gs3, hbX⟩
              replace HX := Lib.hid ((hbX.cell (p := ⟨bx, 0, none⟩) HXL.out).trans HX.out)
              replace HXL := Lib.hid (Nat.lt_of_lt_of_le HXL.out hbX.size)
              replace HBE := Lib.hid (HBE.out.trans (hbX.mono HBE.out.size))
              replace Ha := SpS.below' Ha hbX
              replace Hb := SpS.below' Hb hbX
              clear hbX Ho8
              clear hHeld
              go_wp2_with fail
              refine hK.out _ _ HX.out (fun hHeld => ?_)
              clear hK K
              try simp only [Act.put, List.setIfInBounds_toArray, List.set_cons_zero, List.set_cons_succ]
              refine wpAnyH_ready (rs := [89]) (by as_aux_lemma => kernel_rfl) (by simp) ?_
              refine AllReadyH.cons (o := ⟨some 131, _, _, _, _, _⟩) rfl (fun K hK => ?_) AllReadyH.nil
              go_simp
              go_at_call 19
              with_reducible refine (And_S Ha Hb (by decide) (by decide)).mono ?_
              rintro e u32w ⟨pa7, ma7, ca7, La7, rfl, Ha7, hbX⟩
              replace HX := Lib.hid ((hbX.cell (p := ⟨bx, 0, none⟩) HXL.out).trans HX.out)
              replace HXL := Lib.hid (Nat.lt_of_lt_of_le HXL.out hbX.size)
              replace HBE := Lib.hid (HBE.out.trans (hbX.mono HBE.out.size))
              replace Ha := SpS.below' Ha hbX
              clear hbX Hb
              clear hHeld
              go_wp2_with fail
              refine hK.out _ _ HX.out (fun hHeld => ?_)
              clear hK K
              try simp only [Act.put, List.setIfInBounds_toArray, List.set_cons_zero, List.set_cons_succ]
              refine wpAnyH_ready (rs := [90]) (by as_aux_lemma => kernel_rfl) (by simp) ?_
              refine AllReadyH.cons (o := ⟨some 132, _, _, _, _, _⟩) rfl (fun K hK => ?_) AllReadyH.nil
              go_simp
              go_at_call 23
              with_reducible refine (Size_S N HN.out Ha7 (by decide) (fun k hk h => by have h1 := HA.out k hk; have h2 := HB.out k hk; by_cases d : k < (N : Int) <;> cases hA : fA k <;> cases hB : fB k <;> simp_all)).mono ?_
              rintro e u33w ⟨s4, rfl, Es4, ls4, gs4, hbX⟩
              replace HX := Lib.hid ((hbX.cell (p := ⟨bx, 0, none⟩) HXL.out).trans HX.out)
              replace HXL := Lib.hid (Nat.lt_of_lt_of_le HXL.out hbX.size)
              replace HBE := Lib.hid (HBE.out.trans (hbX.mono HBE.out.size))
              replace Ha := SpS.below' Ha hbX
              clear hbX Ha7
              clear hHeld
              go_wp2_with fail
              refine hK.out _ _ HX.out (fun hHeld => ?_)
              clear hK K
              try simp only [Act.put, List.setIfInBounds_toArray, List.set_cons_zero, List.set_cons_succ]
              have q2 : IntKind.i64.wrap (s3 + s4) = s3 + s4 := wrapI_small _ (by omega) (by omega)
              have q3 : (s1 + s2 == s3 + s4) = true := by rw [Es1.out, Es2.out, Es3.out, Es4.out, beq_iff_eq]; exact Spans.cnt_both fA fB N
              refine wpAnyH_takeD (i := 91) (oi := ⟨some 133, _, _, _, _, _⟩) (d := some 133) (v := ?_) rfl rfl (by as_aux_lemma => kernel_rfl) (by as_aux_lemma => kernel_rfl) (by as_aux_lemma => kernel_rfl) (fun _ _ _ h => h) (Or.inl ⟨by rfl, ?_⟩) (by assumption) ?_
              rotate_left
              · (intro w hSw; (try dsimp only at hSw); go_simp) <;> with_reducible rfl
              try dsimp only [Act.put]
              try simp only [Act.put, List.setIfInBounds_toArray, List.set_cons_zero, List.set_cons_succ]
              refine wpAnyH_takeD (i := 92) (oi := ⟨some 134, _, _, _, _, _⟩) (d := some 134) (v := ?_) rfl rfl (by as_aux_lemma => kernel_rfl) (by as_aux_lemma => kernel_rfl) (by as_aux_lemma => kernel_rfl) (fun _ _ _ h => h) (Or.inl ⟨by rfl, ?_⟩) (by assumption) ?_
              rotate_left
              · (intro w hSw; (try dsimp only at hSw); go_simp) <;> with_reducible rfl
              try dsimp only [Act.put]
              try simp only [Act.put, List.setIfInBounds_toArray, List.set_cons_zero, List.set_cons_succ]
              refine wpAnyH_takeD (i := 93) (oi := ⟨some 135, _, _, _, _, _⟩) (d := some 135) (v := ?_) rfl rfl (by as_aux_lemma => kernel_rfl) (by as_aux_lemma => kernel_rfl) (by as_aux_lemma => kernel_rfl) (fun _ _ _ h => h) (Or.inl ⟨by rfl, ?_⟩) (by assumption) ?_
              rotate_left
              · (intro w hSw; (try dsimp only at hSw); go_simp) <;> with_reducible rfl
              try dsimp only [Act.put]
              try simp only [Act.put, List.setIfInBounds_toArray, List.set_cons_zero, List.set_cons_succ]
              refine wpAnyH_takeD (i := 94) (oi := ⟨some 136, _, _, _, _, _⟩) (d := some 136) (v := ?_) rfl rfl (by as_aux_lemma => kernel_rfl) (by as_aux_lemma => kernel_rfl) (by as_aux_lemma => kernel_rfl) (fun _ _ _ h => h) (Or.inl ⟨by rfl, ?_⟩) (by assumption) ?_
              rotate_left
              · (intro w hSw; (try dsimp only at hSw); go_simp) <;> with_reducible rfl
              try dsimp only [Act.put]
              try simp only [Act.put, List.setIfInBounds_toArray, List.set_cons_zero, List.set_cons_succ]
              refine wpAnyH_takeD (i := 95) (oi := ⟨some 137, _, _, _, _, _⟩) (d := some 137) (v := ?_) rfl rfl (by as_aux_lemma => kernel_rfl) (by as_aux_lemma => kernel_rfl) (by as_aux_lemma => kernel_rfl) (fun _ _ _ h => h) (Or.inl ⟨by rfl, ?_⟩) (by assumption) ?_
              rotate_left
              · (intro w hSw; (try dsimp only at hSw); go_simp) <;> with_reducible rfl
              try dsimp only [Act.put]
              try simp only [Act.put, List.setIfInBounds_toArray, List.set_cons_zero, List.set_cons_succ]
              refine wpAnyH_takeD (i := 97) (oi := ⟨some 139, _, _, _, _, _⟩) (d := some 139) (v := ?_) rfl rfl (by as_aux_lemma => kernel_rfl) (by as_aux_lemma => kernel_rfl) (by as_aux_lemma => kernel_rfl) (fun _ _ _ h => h) (Or.inl ⟨by rfl, ?_⟩) (by assumption) ?_
              rotate_left
              · (intro w hSw; (try dsimp only at hSw); go_simp) <;> with_reducible rfl
              try dsimp only [Act.put]
              try simp only [Act.put, List.setIfInBounds_toArray, List.set_cons_zero, List.set_cons_succ]
              refine wpAnyH_takeD (i := 98) (oi := ⟨some 140, _, _, _, _, _⟩) (d := some 140) (v := ?_) rfl rfl (by as_aux_lemma => kernel_rfl) (by as_aux_lemma => kernel_rfl) (by as_aux_lemma => kernel_rfl) (fun _ _ _ h => h) (Or.inl ⟨by rfl, ?_⟩) (by assumption) ?_
              rotate_left
              · (intro w hSw; (try dsimp only at hSw); go_simp) <;> with_reducible rfl
              try dsimp only [Act.put]
              try simp only [Act.put, List.setIfInBounds_toArray, List.set_cons_zero, List.set_cons_succ]
              refine wpAnyH_takeD (i := 102) (oi := ⟨some 144, _, _, _, _, _⟩) (d := some 144) (v := ?_) rfl rfl (by as_aux_lemma => kernel_rfl) (by as_aux_lemma => kernel_rfl) (by as_aux_lemma => kernel_rfl) (fun _ _ _ h => h) (Or.inl ⟨by rfl, ?_⟩) (by assumption) ?_
              rotate_left
              · (intro w hSw; (try dsimp only at hSw); go_simp) <;> with_reducible rfl
              try dsimp only [Act.put]
              try simp only [Act.put, List.setIfInBounds_toArray, List.set_cons_zero, List.set_cons_succ]
              refine wpAnyH_ready (rs := [96]) (by as_aux_lemma => kernel_rfl) (by simp) ?_
              refine AllReadyH.cons (o := ⟨some 138, _, _, _, _, _⟩) rfl (fun K hK => ?_) AllReadyH.nil
              go_simp
              go_at_call 23
              with_reducible refine (Size_S N HN.out Ha (by decide) (fun k hk h => by have h1 := HA.out k hk; have h2 := HB.out k hk; by_cases d : k < (N : Int) <;> cases hA : fA k <;> cases hB : fB k <;> simp_all)).mono ?_
              rintro e u34w ⟨s5, rfl, Es5, ls5, gs5, hbX⟩
              replace HX := Lib.hid ((hbX.cell (p := ⟨bx, 0, none⟩) HXL.out).trans HX.out)
              replace HXL := Lib.hid (Nat.lt_of_lt_of_le HXL.out hbX.size)
              replace HBE := Lib.hid (HBE.out.trans (hbX.mono HBE.out.size))
              replace Ha := SpS.below' Ha hbX
              clear hbX 
              clear hHeld
              go_wp2_with fail
              refine hK.out _ _ HX.out (fun hHeld => ?_)
              clear hK K
              try simp only [Act.put, List.setIfInBounds_toArray, List.set_cons_zero, List.set_cons_succ]
              refine wpAnyH_ready (rs := [99]) (by as_aux_lemma => kernel_rfl) (by simp) ?_
              refine AllReadyH.cons (o := ⟨some 141, _, _, _, _, _⟩) rfl (fun K hK => ?_) AllReadyH.nil
              go_simp
              go_at_call 20
              with_reducible refine (notC_S (N : Int) bx HX.out Ha (by decide)).mono ?_
              rintro e u35w ⟨pn9, mn9, cn9, Ln9, rfl, Hn9, hbX⟩
              replace HX := Lib.hid ((hbX.cell (p := ⟨bx, 0, none⟩) HXL.out).trans HX.out)
              replace HXL := Lib.hid (Nat.lt_of_lt_of_le HXL.out hbX.size)
              replace HBE := Lib.hid (HBE.out.trans (hbX.mono HBE.out.size))
              clear hbX Ha
              clear hHeld
              go_wp2_with fail
              refine hK.out _ _ HX.out (fun hHeld => ?_)
              clear hK K
              try simp only [Act.put, List.setIfInBounds_toArray, List.set_cons_zero, List.set_cons_succ]
              refine wpAnyH_ready (rs := [100]) (by as_aux_lemma => kernel_rfl) (by simp) ?_
              refine AllReadyH.cons (o := ⟨some 142, _, _, _, _, _⟩) rfl (fun K hK => ?_) AllReadyH.nil
              go_simp
              go_at_call 23
              with_reducible refine (Size_S N HN.out Hn9 (by decide) (fun k hk h => by have h1 := HA.out k hk; have h2 := HB.out k hk; by_cases d : k < (N : Int) <;> cases hA : fA k <;> cases hB : fB k <;> simp_all)).mono ?_
              rintro e u36w ⟨s6, rfl, Es6, ls6, gs6, hbX⟩
              replace HX := Lib.hid ((hbX.cell (p := ⟨bx, 0, none⟩) HXL.out).trans HX.out)
              replace HXL := Lib.hid (Nat.lt_of_lt_of_le HXL.out hbX.size)
              replace HBE := Lib.hid (HBE.out.trans (hbX.mono HBE.out.size))
              clear hbX Hn9
              clear hHeld
              go_wp2_with fail
              refine hK.out _ _ HX.out (fun hHeld => ?_)
              clear hK K
              try simp only [Act.put, List.setIfInBounds_toArray, List.set_cons_zero, List.set_cons_succ]
              have q4 : IntKind.i64.wrap (s5 + s6) = s5 + s6 := wrapI_small _ (by omega) (by omega)
              have q5 : (s5 + s6 == (N : Int)) = true := by rw [Es5.out, Es6.out, beq_iff_eq]; exact cnt_rest fA N
              refine wpAnyH_takeD (i := 101) (oi := ⟨some 143, _, _, _, _, _⟩) (d := some 143) (v := ?_) rfl rfl (by as_aux_lemma => kernel_rfl) (by as_aux_lemma => kernel_rfl) (by as_aux_lemma => kernel_rfl) (fun _ _ _ h => h) (Or.inl ⟨by rfl, ?_⟩) (by assumption) ?_
              rotate_left
              · (intro w hSw; (try dsimp only at hSw); go_simp) <;> with_reducible rfl
              try dsimp only [Act.put]
              try simp only [Act.put, List.setIfInBounds_toArray, List.set_cons_zero, List.set_cons_succ]
              refine wpAnyH_takeD (i := 103) (oi := ⟨some 145, _, _, _, _, _⟩) (d := some 145) (v := ?_) rfl rfl (by as_aux_lemma => kernel_rfl) (by as_aux_lemma => kernel_rfl) (by as_aux_lemma => kernel_rfl) (fun _ _ _ h => h) (Or.inl ⟨by rfl, ?_⟩) (by assumption) ?_
              rotate_left
              · (intro w hSw; (try dsimp only at hSw); go_simp) <;> with_reducible rfl
              try dsimp only [Act.put]
              try simp only [Act.put, List.setIfInBounds_toArray, List.set_cons_zero, List.set_cons_succ]
              refine wpAnyH_takeD (i := 104) (oi := ⟨some 146, _, _, _, _, _⟩) (d := some 146) (v := ?_) rfl rfl (by as_aux_lemma => kernel_rfl) (by as_aux_lemma => kernel_rfl) (by as_aux_lemma => kernel_rfl) (fun _ _ _ h => h) (Or.inl ⟨by rfl, ?_⟩) (by assumption) ?_
              rotate_left
              · (intro w hSw; (try dsimp only at hSw); go_simp) <;> with_reducible rfl
              try dsimp only [Act.put]
              try simp only [Act.put, List.setIfInBounds_toArray, List.set_cons_zero, List.set_cons_succ]
              refine wpAnyH_takeD (i := 105) (oi := ⟨some 8, _, _, _, _, _⟩) (d := some 8) (v := ?_) rfl rfl (by as_aux_lemma => kernel_rfl) (by as_aux_lemma => kernel_rfl) (by as_aux_lemma => kernel_rfl) (fun _ _ _ h => h) (Or.inl ⟨by rfl, ?_⟩) (by assumption) ?_
              rotate_left
              · (intro w hSw; (try dsimp only at hSw); go_simp) <;> with_reducible rfl
              try dsimp only [Act.put]
              try simp only [Act.put, List.setIfInBounds_toArray, List.set_cons_zero, List.set_cons_succ]
              refine wpAnyH_done (by as_aux_lemma => kernel_rfl) ?_ _
              (try refine NoPanic.normal ?_)
              go_wp2_with fail
              go_ret
              exact ⟨rfl, HBE.out⟩
end Go.Proofs.Ytnldobfafaajjaa
