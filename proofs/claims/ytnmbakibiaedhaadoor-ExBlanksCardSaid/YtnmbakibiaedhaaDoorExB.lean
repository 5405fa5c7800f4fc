/- Contract of ex.Parse. -/
import Derived.Test.YtnmbakibiaedhaaDoorExA
import Derived.Deep.DeepCutAuto
namespace Go.Proofs.YtnmbakibiaedhaaDoor
open Go.RowKit Go.Shelf
set_option linter.unusedVariables false
set_option linter.unusedSimpArgs false
theorem res4 {W : World} {rb : Nat} {T : TypeId} {a b c d : Value} (h : RowAt W rb 0 T [a, b, c, d]) (v0 v1 v2 v3 : Value) : RowAt ((((W.setCell ⟨rb, 0, none⟩ v0).setCell ⟨rb, 1, none⟩ v1).setCell ⟨rb, 2, none⟩ v2).setCell ⟨rb, 3, none⟩ v3) rb 0 T [v0, v1, v2, v3] := by
  have := (((h.set0 0 (by simp) v0).set0 1 (by simp) v1).set0 2 (by simp) v2).set0 3 (by simp) v3
  simpa using this
theorem res4_below {W w : World} {B rb : Nat} (h : Below B w W) (hB : B ≤ rb) (v0 v1 v2 v3 : Value) : Below B w ((((W.setCell ⟨rb, 0, none⟩ v0).setCell ⟨rb, 1, none⟩ v1).setCell ⟨rb, 2, none⟩ v2).setCell ⟨rb, 3, none⟩ v3) :=
  (((h.setCell (p := ⟨rb, 0, none⟩) hB v0).setCell (p := ⟨rb, 1, none⟩) hB v1).setCell (p := ⟨rb, 2, none⟩) hB v2).setCell (p := ⟨rb, 3, none⟩) hB v3
theorem stepC_nat (f : UInt8) (w : List UInt8) (c : Ex.Cmd) : Ex.stepC f w c = if f.toNat = 110 then (Ex.numI w).map fun z => { c with n := c.n ++ [z] } else if f.toNat = 98 then (Ex.hexB w).map fun t => { c with b := c.b ++ [t] } else (Ex.pathI w).map fun l => { c with p := l } := by
  unfold Ex.stepC
  have e1 : (f = 110) = (f.toNat = 110) := propext ⟨fun h => by rw [h]; rfl, fun h => UInt8.toNat_inj.1 h⟩
  have e2 : (f = 98) = (f.toNat = 98) := propext ⟨fun h => by rw [h]; rfl, fun h => UInt8.toNat_inj.1 h⟩
  by_cases h1 : f.toNat = 110
  · rw [if_pos (e1 ▸ h1), if_pos h1]
  · rw [if_neg (fun h => h1 (e1 ▸ h)), if_neg h1]
    by_cases h2 : f.toNat = 98
    · rw [if_pos (e2 ▸ h2), if_pos h2]
    · rw [if_neg (fun h => h2 (e2 ▸ h)), if_neg h2]
theorem own4 {W : World} {cb rb n c : Nat} {t : TypeId} {a : Option Addr} {xs : List Value} (h : Owns W (cb + 1) t 1 a n c xs) (hrb : rb ≤ cb) (v0 v1 v2 v3 : Value) : Owns ((((W.setCell ⟨rb, 0, none⟩ v0).setCell ⟨rb, 1, none⟩ v1).setCell ⟨rb, 2, none⟩ v2).setCell ⟨rb, 3, none⟩ v3) (cb + 1) t 1 a n c xs := by
  have hb : ∀ x, a = some x → x.block ≠ rb := fun x hx => by subst hx; have := h.lt.1; omega
  exact (((h.far (p := ⟨rb, 0, none⟩) hb v0).far (p := ⟨rb, 1, none⟩) hb v1).far (p := ⟨rb, 2, none⟩) hb v2).far (p := ⟨rb, 3, none⟩) hb v3
set_option maxRecDepth 100000 in
set_option maxHeartbeats 4000000 in
theorem ParseX_any (l : List UInt8) (w : World) (hl : l.length ≤ 2000) :
    Calls Tryd.prog 28 #[.string (bstr l)] w fun e w' => CmdOut (Ex.cmdOf (Ex.words l)) w.heap.size e w' ∧ Below w.heap.size w w' := by
  have hf := fun w => Fields_any l w (by omega)
  have hh := Ex.wgo_has l [] (by simp)
  have hcn := Ex.wgo_count l []
  change ∀ x ∈ Ex.words l, _ at hh
  change (Ex.words l).length ≤ _ at hcn
  rw [if_pos rfl] at hcn
  obtain ⟨W, hW⟩ : ∃ W, W = Ex.words l := ⟨_, rfl⟩
  rw [← hW] at hf hh hcn ⊢
  have HF := Lib.hid hf
  have hbox := RowAt.new w 58 #[.string { data := #[] }, .slice none 0 0, .slice none 0 0, .slice none 0 0]
  have hbb := (Below.refl w.heap.size w).alloc (Nat.le_refl _) (.cells #[.string { data := #[] }, .slice none 0 0, .slice none 0 0, .slice none 0 0] 58)
  have hbs : (w.alloc (.cells #[.string { data := #[] }, .slice none 0 0, .slice none 0 0, .slice none 0 0] 58)).heap.size = w.heap.size + 1 := by simp
  have HBOX := Lib.hid hbox; have HBB := Lib.hid hbb; have HBS := Lib.hid hbs
  clear hf hW hbox hbb hbs
  have hwl : ∀ x ∈ W, x ≠ [] ∧ (∀ c ∈ x, c ≠ 32) ∧ x.length ≤ 2000 := fun x hx => ⟨(hh x hx).1, (hh x hx).2.1, by have := (hh x hx).2.2; simp at this; omega⟩
  clear hh
  have hcn2 : W.length ≤ 2000 := by omega
  clear hcn
  cases W with
  | nil =>
    go_enter Tryd.func28, Tryd.ntmps28
    go_wp2_with fail
    refine (HF.out _).mono ?_
    rintro e w1 ⟨gA, rfl, hown, hb1⟩
    have hr := HBOX.out.below hb1 HBOX.out.lt
    have c0 := hr.cell0 0 (by simp); have c1 := hr.cell0 1 (by simp); have c2 := hr.cell0 2 (by simp); have c3 := hr.cell0 3 (by simp)
    have f0 := hr.frozen0 0 (by simp); have f1 := hr.frozen0 1 (by simp); have f2 := hr.frozen0 2 (by simp); have f3 := hr.frozen0 3 (by simp)
    simp only [Array.toList, List.getElem_cons_succ, List.getElem_cons_zero] at c0 c1 c2 c3
    have hr5 := res4 hr (.string { data := #[] }) (.slice none 0 0) (.slice none 0 0) (.slice none 0 0)
    have HR5 := Lib.hid hr5
    clear hr hr5
    have HB9 := Lib.hid (res4_below (HBB.out.trans (hb1.mono HBB.out.size)) (Nat.le_refl w.heap.size) (.string { data := #[] }) (.slice none 0 0) (.slice none 0 0) (.slice none 0 0))
    go_wp2_with fail
    clear c0 c1 c2 c3 f0 f1 f2 f3
    have g0 := HR5.out.cell0 0 (by simp); have g1 := HR5.out.cell0 1 (by simp); have g2 := HR5.out.cell0 2 (by simp); have g3 := HR5.out.cell0 3 (by simp)
    simp only [List.getElem_cons_succ, List.getElem_cons_zero] at g0 g1 g2 g3
    exact bodyPost_ret (v := .tuple #[.agg #[.string { data := #[] }, .slice none 0 0, .slice none 0 0, .slice none 0 0], .iface 31 (.int .i64 3)]) (by simp [results, Tryd.results28, go_sem, g0, g1, g2, g3]) rfl ⟨rfl, HB9.out⟩
  | cons x ws =>
    have hx := hwl x (by simp)
    obtain ⟨n, hn⟩ : ∃ n, n = (x :: ws).length := ⟨_, rfl⟩
    rw [← hn] at HF hcn2
    have HFORM : Hid (∀ w, Calls Tryd.prog 68 #[.string (bstr x)] w fun e w' => FormOut (Ex.formOf x) e ∧ w = w') := Lib.hid fun w => form_any x w
    have hnum := fun w => Number_w x w (by have := hx.2.2; omega) hx.1
    have HWL := Lib.hid hwl
    have HNN : Hid (n = ws.length + 1) := Lib.hid hn
    have hn0 : 0 < n := by rw [hn]; simp
    have hn0I : (0 : Int) < (n : Int) := by omega
    clear hwl
    have hcell : ∀ (W1 : World) (gA : Nat), Owns W1 w.heap.size 9 1 (some ⟨gA, 0, none⟩) n n (strVals (x :: ws)) → (∀ k, k < ws.length + 1 → W1.cell? ⟨gA, k, none⟩ = some (.string (bstr ((x :: ws).getD k [])))) ∧ gA < W1.heap.size := by
      intro W1 gA ho
      refine ⟨?_, ho.lt.2⟩
      intro k hk
      have hkl : k < (strVals (x :: ws)).length := by rw [strVals_length]; exact hk
      rw [ho.cell k hkl]
      simp only [strVals, List.getElem_map, List.getD_eq_getElem?_getD]
      rw [List.getElem?_eq_getElem (by simpa using hk)]
      rfl
    have HCELL := Lib.hid hcell
    clear hcell
    have hn4 : n ≤ 2000 := hcn2
    clear hn hcn2 hx
    by_cases hw1 : n = 1
    · have e1 : ((n : Int) == 1) = true := by rw [beq_iff_eq]; omega
      have e0 : ((n : Int) == 0) = false := by rw [beq_eq_false_iff_ne]; omega
      have hws0 : ws = [] := List.eq_nil_of_length_eq_zero (by have := HNN.out; omega)
      have HW0 := Lib.hid hws0
      clear hws0
      cases hx : Ex.numI x with
      | some z =>
        rw [hx] at hnum
        have HNU : Hid (∀ w, Calls Tryd.prog 67 #[.string (bstr x)] w fun e w' => e = .returned (.tuple #[.int .i64 z, .nilIface]) ∧ Below w.heap.size w w') := Lib.hid hnum
        have HCM : Hid (Ex.cmdOf (x :: ws) = some ⟨[103, 111], [z], [], []⟩) := Lib.hid (by rw [HW0.out, Ex.cmdOf, hx])
        clear hnum hx HFORM hw1
        go_enter Tryd.func28, Tryd.ntmps28
        go_wp2_with fail
        refine (HF.out _).mono ?_
        rintro e w1 ⟨gA, rfl, hown, hb1⟩
        have hown' := hown.mono (show w.heap.size ≤ _ by rw [HBS.out]; omega)
        have hw0 := (HCELL.out w1 gA hown').1 0 (by simp)
        rw [List.getD_cons_zero] at hw0
        have HRT := Lib.hid (HBOX.out.below hb1 HBOX.out.lt)
        have HBT := Lib.hid (HBB.out.trans (hb1.mono HBB.out.size))
        clear hown hown' hb1
        go_wp2_with fail
        refine (HNU.out _).mono ?_
        rintro e w2 ⟨rfl, hb2⟩
        have hr := (HRT.out.below hb2 HRT.out.lt).alloc (.cells #[.int .i64 z] 3)
        have HBX := Lib.hid ((HBT.out.trans (hb2.mono HBT.out.size)).alloc (Nat.le_trans HBT.out.size hb2.size) (.cells #[.int .i64 z] 3))
        have hon : Owns (w2.alloc (.cells #[.int .i64 z] 3)) (w.heap.size + 1) 3 1 (some ⟨w2.heap.size, 0, none⟩) 1 1 [.int .i64 z] :=
          Owns.of_row rfl _ w2.heap.size #[.int .i64 z] (Nat.lt_of_lt_of_le HRT.out.lt hb2.size) (heap_alloc_new w2 _) rfl (Nat.le_refl _) (by unfold maxLen; omega) rfl
        have HON := Lib.hid (own4 hon (Nat.le_refl _) (.string { data := #[103, 111] }) (.slice (some ⟨w2.heap.size, 0, none⟩) 1 1) (.slice none 0 0) (.slice none 0 0))
        clear hon hb2
        have c0 := hr.cell0 0 (by simp); have c1 := hr.cell0 1 (by simp); have c2 := hr.cell0 2 (by simp); have c3 := hr.cell0 3 (by simp)
        have f0 := hr.frozen0 0 (by simp); have f1 := hr.frozen0 1 (by simp); have f2 := hr.frozen0 2 (by simp); have f3 := hr.frozen0 3 (by simp)
        simp only [Array.toList, List.getElem_cons_succ, List.getElem_cons_zero] at c0 c1 c2 c3
        have HR5 := Lib.hid (res4 hr (.string { data := #[103, 111] }) (.slice (some ⟨w2.heap.size, 0, none⟩) 1 1) (.slice none 0 0) (.slice none 0 0))
        have HB9 := Lib.hid (res4_below HBX.out (Nat.le_refl w.heap.size) (.string { data := #[103, 111] }) (.slice (some ⟨w2.heap.size, 0, none⟩) 1 1) (.slice none 0 0) (.slice none 0 0))
        clear hr
        go_wp2_with fail
        clear c0 c1 c2 c3 f0 f1 f2 f3
        have g0 := HR5.out.cell0 0 (by simp); have g1 := HR5.out.cell0 1 (by simp); have g2 := HR5.out.cell0 2 (by simp); have g3 := HR5.out.cell0 3 (by simp)
        simp only [List.getElem_cons_succ, List.getElem_cons_zero] at g0 g1 g2 g3
        exact bodyPost_ret (v := .tuple #[.agg #[.string { data := #[103, 111] }, .slice (some ⟨w2.heap.size, 0, none⟩) 1 1, .slice none 0 0, .slice none 0 0], .nilIface]) (by simp [results, Tryd.results28, go_sem, g0, g1, g2, g3]) rfl ⟨by rw [HCM.out]; exact ⟨_, _, none, 0, none, 0, rfl, HON.out.mono (Nat.le_succ _), Owns.nil _ _ _ _, Owns.nil _ _ _ _⟩, HB9.out⟩
      | none =>
        rw [hx] at hnum
        have HNU : Hid (∀ w, Calls Tryd.prog 67 #[.string (bstr x)] w fun e w' => (∃ k : Int, e = .returned (.tuple #[.int .i64 0, .iface 31 (.int .i64 k)])) ∧ Below w.heap.size w w') := Lib.hid hnum
        have HCM : Hid (Ex.cmdOf (x :: ws) = Ex.cmdRest (x :: ws)) := Lib.hid (by rw [HW0.out, Ex.cmdOf, hx])
        clear hnum hx hw1
        go_enter Tryd.func28, Tryd.ntmps28
        go_wp2_with fail
        refine (HF.out _).mono ?_
        rintro e w1 ⟨gA, rfl, hown, hb1⟩
        have hown' := hown.mono (show w.heap.size ≤ _ by rw [HBS.out]; omega)
        have hcl := HCELL.out w1 gA hown'
        have hw0 := hcl.1 0 (by simp)
        rw [List.getD_cons_zero] at hw0
        have hrt := HBOX.out.below hb1 HBOX.out.lt
        have hbt := HBB.out.trans (hb1.mono HBB.out.size)
        have HCL := Lib.hid hcl
        have HRT0 := Lib.hid hrt
        have HBT0 := Lib.hid hbt
        clear hown hown' hb1 hcl hrt hbt
        go_wp2_with fail
        refine (HNU.out _).mono ?_
        rintro e wt ⟨⟨ke, rfl⟩, hb2⟩
        have HRT := Lib.hid (HRT0.out.below hb2 HRT0.out.lt)
        have HBT := Lib.hid (HBT0.out.trans (hb2.mono HBT0.out.size))
        have HWD : Hid (∀ k, k < (x :: ws).length → wt.cell? ⟨gA, k, none⟩ = some (.string (bstr ((x :: ws).getD k [])))) := Lib.hid fun k hk => (hb2.cell (p := ⟨gA, k, none⟩) HCL.out.2).trans (HCL.out.1 k hk)
        have hgA : gA < wt.heap.size := Nat.lt_of_lt_of_le HCL.out.2 hb2.size
        have hw1 := HWD.out 0 (by simp)
        rw [List.getD_cons_zero] at hw1
        clear hw0 HRT0 HBT0 HCL hb2
        go_wp2_with fail
        cases hfo : Ex.formOf x with
        | none =>
          rw [hfo] at HFORM
          have HFO : Hid (∀ w, Calls Tryd.prog 68 #[.string (bstr x)] w fun e w' => e = .returned (.tuple #[.string ByteArray.empty, .bool false]) ∧ w = w') := HFORM
          have HRS : Hid (Ex.cmdRest (x :: ws) = none) := Lib.hid (by rw [Ex.cmdRest, hfo])
          clear HFORM hfo
          refine (HFO.out _).mono ?_
          rintro e w9 ⟨rfl, rfl⟩
          have hr := HRT.out
          have HBX := HBT
          have c0 := hr.cell0 0 (by simp); have c1 := hr.cell0 1 (by simp); have c2 := hr.cell0 2 (by simp); have c3 := hr.cell0 3 (by simp)
          have f0 := hr.frozen0 0 (by simp); have f1 := hr.frozen0 1 (by simp); have f2 := hr.frozen0 2 (by simp); have f3 := hr.frozen0 3 (by simp)
          simp only [Array.toList, List.getElem_cons_succ, List.getElem_cons_zero] at c0 c1 c2 c3
          have HR5 := Lib.hid (res4 hr (.string { data := #[] }) (.slice none 0 0) (.slice none 0 0) (.slice none 0 0))
          have HB9 := Lib.hid (res4_below HBX.out (Nat.le_refl w.heap.size) (.string { data := #[] }) (.slice none 0 0) (.slice none 0 0) (.slice none 0 0))
          clear hr
          go_wp2_with fail
          clear c0 c1 c2 c3 f0 f1 f2 f3
          have g0 := HR5.out.cell0 0 (by simp); have g1 := HR5.out.cell0 1 (by simp); have g2 := HR5.out.cell0 2 (by simp); have g3 := HR5.out.cell0 3 (by simp)
          simp only [List.getElem_cons_succ, List.getElem_cons_zero] at g0 g1 g2 g3
          exact bodyPost_ret (v := .tuple #[.agg #[.string { data := #[] }, .slice none 0 0, .slice none 0 0, .slice none 0 0], .iface 31 (.int .i64 3)]) (by simp [results, Tryd.results28, go_sem, g0, g1, g2, g3]) rfl ⟨by rw [HCM.out, HRS.out]; exact rfl, HB9.out⟩
        | some f =>
          rw [hfo] at HFORM
          have HFO : Hid (∀ w, Calls Tryd.prog 68 #[.string (bstr x)] w fun e w' => e = .returned (.tuple #[.string (bstr f), .bool true]) ∧ w = w') := HFORM
          have hf3 := Ex.formOf_short hfo
          by_cases hfl : ws.length = f.length
          · have hne : ((n : Int) != (f.length : Int) + 1) = false := by rw [bne_eq_false_iff_eq]; have := HNN.out; omega
            obtain ⟨R, hR⟩ : ∃ R, R = Ex.cmdRest (x :: ws) := ⟨_, rfl⟩
            have HR0 : Hid (R = Ex.runC f ws ⟨x, [], [], []⟩) := Lib.hid (by rw [hR, Ex.cmdRest, hfo]; exact if_pos hfl)
            have HCR : Hid (Ex.cmdOf (x :: ws) = R) := Lib.hid (by rw [HCM.out, hR])
            have HLF := Lib.hid hfl; have HF3 := Lib.hid hf3
            clear HFORM hfo hR hfl
            have hw0 := HWD.out 0 (by simp)
            rw [List.getD_cons_zero] at hw0
            refine (HFO.out _).mono ?_
            rintro e w9 ⟨rfl, rfl⟩
            obtain ⟨cb, hcb⟩ : ∃ cb, cb = wt.heap.size := ⟨_, rfl⟩
            have hr1 := RowAt.new wt 58 #[.string (bstr x), .slice none 0 0, .slice none 0 0, .slice none 0 0]
            rw [← hcb] at hr1
            have hbz2 : Below cb wt (wt.alloc (.cells #[.string (bstr x), .slice none 0 0, .slice none 0 0, .slice none 0 0] 58)) := (Below.refl cb wt).alloc (Nat.le_of_eq hcb) _
            have HC0 : Hid (CmS cb wt _ ⟨x, [], [], []⟩ none 0 none 0 none 0) := Lib.hid ⟨hr1, Owns.nil _ _ _ _, Owns.nil _ _ _ _, Owns.nil _ _ _ _, (fun _ _ h => by cases h), hbz2⟩
            have HGA : Hid (gA < cb) := Lib.hid (by rw [hcb]; exact hgA)
            have HRB : Hid (w.heap.size < cb) := Lib.hid (by rw [hcb]; exact HRT.out.lt)
            have HTB : Hid (w.heap.size ≤ cb) := Lib.hid (Nat.le_of_lt HRB.out)
            have HCB := Lib.hid hcb
            clear hr1 hbz2 hgA
            go_wp2_with fail
            rw [← HCB.out]
            clear hcb
            generalize wt.alloc (Obj.cells #[Value.string (bstr x), Value.slice none 0 0, Value.slice none 0 0, Value.slice none 0 0] 58) = w11 at *
            go_loopw [61] (fun v61 wr => ∃ (i : Nat) (c : Ex.Cmd) (aN : Option Addr) (cN : Nat) (aB : Option Addr) (cB : Nat) (aP : Option Addr) (cP : Nat), i ≤ f.length ∧ v61 = .int .i64 i ∧ Hid (CmS cb wt wr c aN cN aB cB aP cP) ∧ Hid (R = Ex.runC (f.drop i) (ws.drop i) c) ∧ Hid (c.n.length ≤ i ∧ c.b.length ≤ i)) (fun v61 _ => f.length - (intOf v61).toNat)
            case atStart => exact ⟨0, ⟨x, [], [], []⟩, none, 0, none, 0, none, 0, Nat.zero_le _, rfl, HC0, HR0, Lib.hid ⟨Nat.le_refl _, Nat.le_refl _⟩⟩
            case round =>
              obtain ⟨i, c, aN, cN, aB, cB, aP, cP, hi, rfl, HC, HRR, HLN⟩ := hrel
              by_cases hlt : i < f.length
              · have hws : i < ws.length := by have := HLF.out; omega
                have hi1 : i + 1 ≤ f.length := hlt
                have hfd : f.drop i = f.getD i 0 :: f.drop (i + 1) := by rw [List.drop_eq_getElem_cons hlt, List.getD_eq_getElem?_getD, List.getElem?_eq_getElem hlt]; rfl
                have hwd : ws.drop i = ws.getD i [] :: ws.drop (i + 1) := by rw [List.drop_eq_getElem_cons hws, List.getD_eq_getElem?_getD, List.getElem?_eq_getElem hws]; rfl
                have hrr := HRR.out
                rw [hfd, hwd, Ex.runC] at hrr
                have hwi := HWL.out (ws.getD i []) (by rw [List.getD_eq_getElem?_getD, List.getElem?_eq_getElem hws]; exact List.mem_cons_of_mem _ (List.getElem_mem hws))
                have hcell : wr.cell? ⟨gA, i + 1, none⟩ = some (.string (bstr (ws.getD i []))) := (HC.out.bel.cell (p := ⟨gA, i + 1, none⟩) HGA.out).trans (HWD.out (i + 1) (by simpa using hws))
                have hfx : ∀ h : i < (bstr f).size, ((bstr f)[i]'h).toNat = (f.getD i 0).toNat := fun h => by rw [bstr_at']
                have hf8 : (f.getD i 0).toNat < 256 := UInt8.toNat_lt _
                have hst0 : ∀ w c, Ex.stepC (f.getD i 0) w c = if (f.getD i 0).toNat = 110 then (Ex.numI w).map fun z => { c with n := c.n ++ [z] } else if (f.getD i 0).toNat = 98 then (Ex.hexB w).map fun t => { c with b := c.b ++ [t] } else (Ex.pathI w).map fun l => { c with p := l } := fun w c => stepC_nat _ w c
                rw [hst0] at hrr
                generalize ws.getD i [] = wi at *
                generalize (f.getD i 0).toNat = fx at *
                have hltI : (i : Int) < (f.length : Int) := by omega
                have hltN : decide (i < f.length) = true := decide_eq_true hlt
                have i1 : ((i : Int) + 1).toNat = i + 1 := by omega
                have hi2n : (i : Int) + 1 < (n : Int) := by have := HLF.out; have := HNN.out; omega
                have hin : i + 1 < n := by have := HLF.out; have := HNN.out; omega
                have HM : Hid (c.n.length + 1 ≤ maxLen) := Lib.hid (by unfold maxLen; have := HLN.out; omega)
                have HY : Hid ((c.n.length + 1) * 8 ≤ 140737488355328) := Lib.hid (by have := HLN.out; omega)
                have HMB : Hid (c.b.length + 1 ≤ maxLen) := Lib.hid (by unfold maxLen; have := HLN.out; omega)
                have HYB : Hid ((c.b.length + 1) * 16 ≤ 140737488355328) := Lib.hid (by have := HLN.out; omega)
                have HLN2 : Hid (c.n.length + 1 ≤ i + 1 ∧ c.b.length ≤ i + 1) := Lib.hid (by have := HLN.out; omega)
                have HLN3 : Hid (c.n.length ≤ i + 1 ∧ c.b.length + 1 ≤ i + 1) := Lib.hid (by have := HLN.out; omega)
                have HLN4 : Hid (c.n.length ≤ i + 1 ∧ c.b.length ≤ i + 1) := Lib.hid (by have := HLN.out; omega)
                clear hfd hwd hst0 HRR
                by_cases e110 : fx = 110
                · have b1 : ((fx : Int) == 110) = true := by rw [beq_iff_eq]; omega
                  rw [if_pos e110] at hrr
                  have hnum := fun w => Number_w wi w (by have := hwi.2.2; omega) hwi.1
                  clear e110 hwi hf8
                  cases hx : Ex.numI wi with
                  | some z =>
                    rw [hx] at hrr hnum
                    have HRS : Hid (R = Ex.runC (f.drop (i + 1)) (ws.drop (i + 1)) { c with n := c.n ++ [z] }) := Lib.hid hrr
                    have HNU : Hid (∀ w, Calls Tryd.prog 67 #[.string (bstr wi)] w fun e w' => e = .returned (.tuple #[.int .i64 z, .nilIface]) ∧ Below w.heap.size w w') := Lib.hid hnum
                    clear hrr hnum hx
                    go_wp2_with fail
                    refine (HNU.out _).mono ?_
                    rintro e w2 ⟨rfl, hb2⟩
                    have H2 := Lib.hid (HC.out.call hb2)
                    have k1 := H2.out.box.cell0 1 (by simp)
                    simp only [List.getElem_cons_succ, List.getElem_cons_zero] at k1
                    clear hb2
                    go_wp2_with (with_reducible refine wpList_push _ rfl _ _ 55 rfl (cb + 1) 3 (.int .i64 0) 1 8 Tryd.underlying55 infoI64p rfl (by decide) aN c.n.length cN _ rfl H2.out.on [.int .i64 z] rfl (by simp [Value.oneCell']) rfl HM.out HY.out H2.out.sz ?_; intro a' cap' w4 hown4 hgrow4 hloc4 hsz4 hex4; obtain ⟨hb4, hS4⟩ := H2.out.setN hown4 hgrow4 (fun x h => (hloc4 x h).imp_right Nat.le_of_lt); have k4 := hb4.cell0 1 (by simp); have kf4 := hb4.frozen0 1 (by simp); simp only [List.getElem_cons_succ, List.getElem_cons_zero] at k4; have HS4 := Lib.hid hS4; clear hown4 hgrow4 hloc4 hsz4 hex4 hb4 hS4)
                    go_wp2_with fail
                    go_roundw
                    case rel => exact ⟨i + 1, _, a', cap', aB, cB, aP, cP, hi1, by go_num, HS4, Lib.hid HRS.out, Lib.hid (by have := HLN2.out; simp; omega)⟩
                    case measure => simp [intOf]; omega
                  | none =>
                    rw [hx] at hrr hnum
                    have HRS : Hid (R = none) := Lib.hid hrr
                    have HNU : Hid (∀ w, Calls Tryd.prog 67 #[.string (bstr wi)] w fun e w' => (∃ k : Int, e = .returned (.tuple #[.int .i64 0, .iface 31 (.int .i64 k)])) ∧ Below w.heap.size w w') := Lib.hid hnum
                    clear hrr hnum hx
                    go_wp2_with fail
                    refine (HNU.out _).mono ?_
                    rintro e w2 ⟨⟨ke, rfl⟩, hb2⟩
                    have H2 := Lib.hid (HC.out.call hb2)
                    have k1 := H2.out.box.cell0 1 (by simp)
                    simp only [List.getElem_cons_succ, List.getElem_cons_zero] at k1
                    clear hb2
                    go_wp2_with (with_reducible refine wpList_push _ rfl _ _ 55 rfl (cb + 1) 3 (.int .i64 0) 1 8 Tryd.underlying55 infoI64p rfl (by decide) aN c.n.length cN _ rfl H2.out.on [.int .i64 0] rfl (by simp [Value.oneCell']) rfl HM.out HY.out H2.out.sz ?_; intro a' cap' w4 hown4 hgrow4 hloc4 hsz4 hex4; obtain ⟨hb4, hS4⟩ := H2.out.setN hown4 hgrow4 (fun x h => (hloc4 x h).imp_right Nat.le_of_lt); have k4 := hb4.cell0 1 (by simp); have kf4 := hb4.frozen0 1 (by simp); simp only [List.getElem_cons_succ, List.getElem_cons_zero] at k4; have HS4 := Lib.hid hS4; clear hown4 hgrow4 hloc4 hsz4 hex4 hb4 hS4; have hr := (HRT.out.below HS4.out.bel HRB.out); have HBX := Lib.hid (HBT.out.trans (HS4.out.bel.mono HTB.out)); have c0 := hr.cell0 0 (by simp); have c1 := hr.cell0 1 (by simp); have c2 := hr.cell0 2 (by simp); have c3 := hr.cell0 3 (by simp); have f0 := hr.frozen0 0 (by simp); have f1 := hr.frozen0 1 (by simp); have f2 := hr.frozen0 2 (by simp); have f3 := hr.frozen0 3 (by simp); simp only [Array.toList, List.getElem_cons_succ, List.getElem_cons_zero] at c0 c1 c2 c3; have HR5 := Lib.hid (res4 hr (.string { data := #[] }) (.slice none 0 0) (.slice none 0 0) (.slice none 0 0)); have HB9 := Lib.hid (res4_below HBX.out (Nat.le_refl w.heap.size) (.string { data := #[] }) (.slice none 0 0) (.slice none 0 0) (.slice none 0 0)); clear hr)
                    clear c0 c1 c2 c3 f0 f1 f2 f3
                    have g0 := HR5.out.cell0 0 (by simp); have g1 := HR5.out.cell0 1 (by simp); have g2 := HR5.out.cell0 2 (by simp); have g3 := HR5.out.cell0 3 (by simp)
                    simp only [List.getElem_cons_succ, List.getElem_cons_zero] at g0 g1 g2 g3
                    exact bodyPost_ret (v := .tuple #[.agg #[.string { data := #[] }, .slice none 0 0, .slice none 0 0, .slice none 0 0], .iface 31 (.int .i64 3)]) (by simp [results, Tryd.results28, go_sem, g0, g1, g2, g3]) rfl ⟨by rw [HCR.out, HRS.out]; exact rfl, HB9.out⟩
                have b1 : ((fx : Int) == 110) = false := by rw [beq_eq_false_iff_ne]; omega
                rw [if_neg e110] at hrr
                by_cases e98 : fx = 98
                · have b2 : ((fx : Int) == 98) = true := by rw [beq_iff_eq]; omega
                  rw [if_pos e98] at hrr
                  have hnum := fun w => bytes_any wi w hwi.2.1 (by have := hwi.2.2; omega)
                  clear e110 e98 hwi hf8 HM HY
                  have HM := HMB; have HY := HYB
                  cases hx : Ex.hexB wi with
                  | some z =>
                    rw [hx] at hrr hnum
                    have HRS : Hid (R = Ex.runC (f.drop (i + 1)) (ws.drop (i + 1)) { c with b := c.b ++ [z] }) := Lib.hid hrr
                    have HNU : Hid (∀ w, Calls Tryd.prog 69 #[.string (bstr wi)] w fun e w' => e = .returned (.tuple #[.string (bstr z), .nilIface]) ∧ Below w.heap.size w w') := Lib.hid hnum
                    clear hrr hnum hx
                    go_wp2_with fail
                    refine (HNU.out _).mono ?_
                    rintro e w2 ⟨rfl, hb2⟩
                    have H2 := Lib.hid (HC.out.call hb2)
                    have k2 := H2.out.box.cell0 2 (by simp)
                    simp only [List.getElem_cons_succ, List.getElem_cons_zero] at k2
                    clear hb2
                    go_wp2_with (with_reducible refine wpList_push _ rfl _ _ 56 rfl (cb + 1) 9 (.string ByteArray.empty) 1 16 Tryd.underlying56 infoStr rfl (by decide) aB c.b.length cB _ rfl H2.out.ob [.string (bstr z)] rfl (by simp [Value.oneCell']) rfl HM.out HY.out H2.out.sz ?_; intro a' cap' w4 hown4 hgrow4 hloc4 hsz4 hex4; obtain ⟨hb4, hS4⟩ := H2.out.setB (t := z) hown4 hgrow4; have k4 := hb4.cell0 2 (by simp); have kf4 := hb4.frozen0 2 (by simp); simp only [List.getElem_cons_succ, List.getElem_cons_zero] at k4; have HS4 := Lib.hid hS4; clear hown4 hgrow4 hloc4 hsz4 hex4 hb4 hS4)
                    go_wp2_with fail
                    go_roundw
                    case rel => exact ⟨i + 1, _, aN, cN, a', cap', aP, cP, hi1, by go_num, HS4, Lib.hid HRS.out, Lib.hid (by have := HLN3.out; simp; omega)⟩
                    case measure => simp [intOf]; omega
                  | none =>
                    rw [hx] at hrr hnum
                    have HRS : Hid (R = none) := Lib.hid hrr
                    have HNU : Hid (∀ w, Calls Tryd.prog 69 #[.string (bstr wi)] w fun e w' => e = .returned (.tuple #[.string ByteArray.empty, .iface 31 (.int .i64 3)]) ∧ Below w.heap.size w w') := Lib.hid hnum
                    clear hrr hnum hx
                    go_wp2_with fail
                    refine (HNU.out _).mono ?_
                    rintro e w2 ⟨rfl, hb2⟩
                    have H2 := Lib.hid (HC.out.call hb2)
                    have k2 := H2.out.box.cell0 2 (by simp)
                    simp only [List.getElem_cons_succ, List.getElem_cons_zero] at k2
                    clear hb2
                    go_wp2_with (with_reducible refine wpList_push _ rfl _ _ 56 rfl (cb + 1) 9 (.string ByteArray.empty) 1 16 Tryd.underlying56 infoStr rfl (by decide) aB c.b.length cB _ rfl H2.out.ob [.string ByteArray.empty] rfl (by simp [Value.oneCell']) rfl HM.out HY.out H2.out.sz ?_; intro a' cap' w4 hown4 hgrow4 hloc4 hsz4 hex4; obtain ⟨hb4, hS4⟩ := H2.out.setB (t := []) hown4 hgrow4; have k4 := hb4.cell0 2 (by simp); have kf4 := hb4.frozen0 2 (by simp); simp only [List.getElem_cons_succ, List.getElem_cons_zero] at k4; have HS4 := Lib.hid hS4; clear hown4 hgrow4 hloc4 hsz4 hex4 hb4 hS4; have hr := (HRT.out.below HS4.out.bel HRB.out); have HBX := Lib.hid (HBT.out.trans (HS4.out.bel.mono HTB.out)); have c0 := hr.cell0 0 (by simp); have c1 := hr.cell0 1 (by simp); have c2 := hr.cell0 2 (by simp); have c3 := hr.cell0 3 (by simp); have f0 := hr.frozen0 0 (by simp); have f1 := hr.frozen0 1 (by simp); have f2 := hr.frozen0 2 (by simp); have f3 := hr.frozen0 3 (by simp); simp only [Array.toList, List.getElem_cons_succ, List.getElem_cons_zero] at c0 c1 c2 c3; have HR5 := Lib.hid (res4 hr (.string { data := #[] }) (.slice none 0 0) (.slice none 0 0) (.slice none 0 0)); have HB9 := Lib.hid (res4_below HBX.out (Nat.le_refl w.heap.size) (.string { data := #[] }) (.slice none 0 0) (.slice none 0 0) (.slice none 0 0)); clear hr)
                    clear c0 c1 c2 c3 f0 f1 f2 f3
                    have g0 := HR5.out.cell0 0 (by simp); have g1 := HR5.out.cell0 1 (by simp); have g2 := HR5.out.cell0 2 (by simp); have g3 := HR5.out.cell0 3 (by simp)
                    simp only [List.getElem_cons_succ, List.getElem_cons_zero] at g0 g1 g2 g3
                    exact bodyPost_ret (v := .tuple #[.agg #[.string { data := #[] }, .slice none 0 0, .slice none 0 0, .slice none 0 0], .iface 31 (.int .i64 3)]) (by simp [results, Tryd.results28, go_sem, g0, g1, g2, g3]) rfl ⟨by rw [HCR.out, HRS.out]; exact rfl, HB9.out⟩
                have b2 : ((fx : Int) == 98) = false := by rw [beq_eq_false_iff_ne]; omega
                rw [if_neg e98] at hrr
                have hnum := fun w => path_any wi w hwi.2.2
                clear e110 e98 hwi hf8 HM HY
                cases hx : Ex.pathI wi with
                | some z =>
                  rw [hx] at hrr hnum
                  have HRS : Hid (R = Ex.runC (f.drop (i + 1)) (ws.drop (i + 1)) { c with p := z }) := Lib.hid hrr
                  have HNU : Hid (∀ w, Calls Tryd.prog 70 #[.string (bstr wi)] w fun e w' => (∃ a cap, e = .returned (.tuple #[.slice a z.length cap, .nilIface]) ∧ Owns w' w.heap.size 3 1 a z.length cap (ivals z)) ∧ Below w.heap.size w w') := Lib.hid hnum
                  clear hrr hnum hx
                  go_wp2_with fail
                  refine (HNU.out _).mono ?_
                  rintro e w2 ⟨⟨a', cap', rfl, hown2⟩, hb2⟩
                  have HS4 := Lib.hid (HC.out.setP hown2 hb2)
                  have k3 := (HC.out.call hb2).box.cell0 3 (by simp)
                  have kf3 := (HC.out.call hb2).box.frozen0 3 (by simp)
                  simp only [List.getElem_cons_succ, List.getElem_cons_zero] at k3
                  clear hb2 hown2
                  go_wp2_with fail
                  go_roundw
                  case rel => exact ⟨i + 1, _, aN, cN, aB, cB, a', cap', hi1, by go_num, HS4, Lib.hid HRS.out, Lib.hid HLN4.out⟩
                  case measure => simp [intOf]; omega
                | none =>
                  rw [hx] at hrr hnum
                  have HRS : Hid (R = none) := Lib.hid hrr
                  have HNU : Hid (∀ w, Calls Tryd.prog 70 #[.string (bstr wi)] w fun e w' => e = .returned (.tuple #[.slice none 0 0, .iface 31 (.int .i64 3)]) ∧ Below w.heap.size w w') := Lib.hid hnum
                  clear hrr hnum hx
                  go_wp2_with fail
                  refine (HNU.out _).mono ?_
                  rintro e w2 ⟨rfl, hb2⟩
                  have HS4 : Hid (CmS cb wt (w2.setCell ⟨cb, 3, none⟩ (.slice none 0 0)) { c with p := [] } aN cN aB cB none 0) := Lib.hid (HC.out.setP (l := []) (Owns.nil w2 _ _ _) hb2)
                  have k3 := (HC.out.call hb2).box.cell0 3 (by simp)
                  have kf3 := (HC.out.call hb2).box.frozen0 3 (by simp)
                  simp only [List.getElem_cons_succ, List.getElem_cons_zero] at k3
                  clear hb2
                  have hr := (HRT.out.below HS4.out.bel HRB.out)
                  have HBX := Lib.hid (HBT.out.trans (HS4.out.bel.mono HTB.out))
                  have c0 := hr.cell0 0 (by simp); have c1 := hr.cell0 1 (by simp); have c2 := hr.cell0 2 (by simp); have c3 := hr.cell0 3 (by simp)
                  have f0 := hr.frozen0 0 (by simp); have f1 := hr.frozen0 1 (by simp); have f2 := hr.frozen0 2 (by simp); have f3 := hr.frozen0 3 (by simp)
                  simp only [Array.toList, List.getElem_cons_succ, List.getElem_cons_zero] at c0 c1 c2 c3
                  have HR5 := Lib.hid (res4 hr (.string { data := #[] }) (.slice none 0 0) (.slice none 0 0) (.slice none 0 0))
                  have HB9 := Lib.hid (res4_below HBX.out (Nat.le_refl w.heap.size) (.string { data := #[] }) (.slice none 0 0) (.slice none 0 0) (.slice none 0 0))
                  clear hr
                  go_wp2_with fail
                  clear c0 c1 c2 c3 f0 f1 f2 f3
                  have g0 := HR5.out.cell0 0 (by simp); have g1 := HR5.out.cell0 1 (by simp); have g2 := HR5.out.cell0 2 (by simp); have g3 := HR5.out.cell0 3 (by simp)
                  simp only [List.getElem_cons_succ, List.getElem_cons_zero] at g0 g1 g2 g3
                  exact bodyPost_ret (v := .tuple #[.agg #[.string { data := #[] }, .slice none 0 0, .slice none 0 0, .slice none 0 0], .iface 31 (.int .i64 3)]) (by simp [results, Tryd.results28, go_sem, g0, g1, g2, g3]) rfl ⟨by rw [HCR.out, HRS.out]; exact rfl, HB9.out⟩
              · obtain rfl : i = f.length := by omega
                have hd9 : decide ((f.length : Int) < (f.length : Int)) = false := by simp
                have hrr := HRR.out
                rw [List.drop_length, Ex.runC] at hrr
                have HRS : Hid (R = some c) := Lib.hid hrr
                have k0 := HC.out.box.cell0 0 (by simp); have k1 := HC.out.box.cell0 1 (by simp); have k2 := HC.out.box.cell0 2 (by simp); have k3 := HC.out.box.cell0 3 (by simp)
                simp only [List.getElem_cons_succ, List.getElem_cons_zero] at k0 k1 k2 k3
                have hr := (HRT.out.below HC.out.bel HRB.out)
                have HBX := Lib.hid (HBT.out.trans (HC.out.bel.mono HTB.out))
                have c0 := hr.cell0 0 (by simp); have c1 := hr.cell0 1 (by simp); have c2 := hr.cell0 2 (by simp); have c3 := hr.cell0 3 (by simp)
                have f0 := hr.frozen0 0 (by simp); have f1 := hr.frozen0 1 (by simp); have f2 := hr.frozen0 2 (by simp); have f3 := hr.frozen0 3 (by simp)
                simp only [Array.toList, List.getElem_cons_succ, List.getElem_cons_zero] at c0 c1 c2 c3
                have HR5 := Lib.hid (res4 hr (.string (bstr c.word)) (.slice aN c.n.length cN) (.slice aB c.b.length cB) (.slice aP c.p.length cP))
                have HB9 := Lib.hid (res4_below HBX.out (Nat.le_refl w.heap.size) (.string (bstr c.word)) (.slice aN c.n.length cN) (.slice aB c.b.length cB) (.slice aP c.p.length cP))
                clear hr
                have HO1 := Lib.hid (own4 HC.out.on (Nat.le_of_lt HRB.out) (.string (bstr c.word)) (.slice aN c.n.length cN) (.slice aB c.b.length cB) (.slice aP c.p.length cP))
                have HO2 := Lib.hid (own4 HC.out.ob (Nat.le_of_lt HRB.out) (.string (bstr c.word)) (.slice aN c.n.length cN) (.slice aB c.b.length cB) (.slice aP c.p.length cP))
                have HO3 := Lib.hid (own4 HC.out.op (Nat.le_of_lt HRB.out) (.string (bstr c.word)) (.slice aN c.n.length cN) (.slice aB c.b.length cB) (.slice aP c.p.length cP))
                clear hrr hlt
                go_wp2_with fail
                clear c0 c1 c2 c3 f0 f1 f2 f3
                have g0 := HR5.out.cell0 0 (by simp); have g1 := HR5.out.cell0 1 (by simp); have g2 := HR5.out.cell0 2 (by simp); have g3 := HR5.out.cell0 3 (by simp)
                simp only [List.getElem_cons_succ, List.getElem_cons_zero] at g0 g1 g2 g3
                have hwb : w.heap.size ≤ cb + 1 := Nat.le_succ_of_le (Nat.le_of_lt HRB.out)
                exact bodyPost_ret (v := .tuple #[.agg #[.string (bstr c.word), .slice aN c.n.length cN, .slice aB c.b.length cB, .slice aP c.p.length cP], .nilIface]) (by simp [results, Tryd.results28, go_sem, g0, g1, g2, g3]) rfl ⟨by rw [HCR.out, HRS.out]; exact ⟨aN, cN, aB, cB, aP, cP, rfl, HO1.out.mono hwb, HO2.out.mono hwb, HO3.out.mono hwb⟩, HB9.out⟩
          · have hne : ((n : Int) != (f.length : Int) + 1) = true := by rw [bne_iff_ne]; have := HNN.out; omega
            have HRS : Hid (Ex.cmdRest (x :: ws) = none) := Lib.hid (by rw [Ex.cmdRest, hfo]; exact if_neg hfl)
            clear HFORM hfo hfl
            refine (HFO.out _).mono ?_
            rintro e w9 ⟨rfl, rfl⟩
            have hr := HRT.out
            have HBX := HBT
            have c0 := hr.cell0 0 (by simp); have c1 := hr.cell0 1 (by simp); have c2 := hr.cell0 2 (by simp); have c3 := hr.cell0 3 (by simp)
            have f0 := hr.frozen0 0 (by simp); have f1 := hr.frozen0 1 (by simp); have f2 := hr.frozen0 2 (by simp); have f3 := hr.frozen0 3 (by simp)
            simp only [Array.toList, List.getElem_cons_succ, List.getElem_cons_zero] at c0 c1 c2 c3
            have HR5 := Lib.hid (res4 hr (.string { data := #[] }) (.slice none 0 0) (.slice none 0 0) (.slice none 0 0))
            have HB9 := Lib.hid (res4_below HBX.out (Nat.le_refl w.heap.size) (.string { data := #[] }) (.slice none 0 0) (.slice none 0 0) (.slice none 0 0))
            clear hr
            go_wp2_with fail
            clear c0 c1 c2 c3 f0 f1 f2 f3
            have g0 := HR5.out.cell0 0 (by simp); have g1 := HR5.out.cell0 1 (by simp); have g2 := HR5.out.cell0 2 (by simp); have g3 := HR5.out.cell0 3 (by simp)
            simp only [List.getElem_cons_succ, List.getElem_cons_zero] at g0 g1 g2 g3
            exact bodyPost_ret (v := .tuple #[.agg #[.string { data := #[] }, .slice none 0 0, .slice none 0 0, .slice none 0 0], .iface 31 (.int .i64 3)]) (by simp [results, Tryd.results28, go_sem, g0, g1, g2, g3]) rfl ⟨by rw [HCM.out, HRS.out]; exact rfl, HB9.out⟩
    · have e1 : ((n : Int) == 1) = false := by rw [beq_eq_false_iff_ne]; omega
      have e0 : ((n : Int) == 0) = false := by rw [beq_eq_false_iff_ne]; omega
      have HCM : Hid (Ex.cmdOf (x :: ws) = Ex.cmdRest (x :: ws)) := Lib.hid (by
        cases ws with
        | nil => exact absurd (by have := HNN.out; simpa using this) hw1
        | cons y r => rfl)
      clear hnum hw1
      go_enter Tryd.func28, Tryd.ntmps28
      go_wp2_with fail
      refine (HF.out _).mono ?_
      rintro e wt ⟨gA, rfl, hown, hb1⟩
      have hown' := hown.mono (show w.heap.size ≤ _ by rw [HBS.out]; omega)
      have hcl := HCELL.out wt gA hown'
      have HRT := Lib.hid (HBOX.out.below hb1 HBOX.out.lt)
      have HBT := Lib.hid (HBB.out.trans (hb1.mono HBB.out.size))
      have HWD : Hid (∀ k, k < (x :: ws).length → wt.cell? ⟨gA, k, none⟩ = some (.string (bstr ((x :: ws).getD k [])))) := Lib.hid hcl.1
      have hgA : gA < wt.heap.size := hcl.2
      have hw1 := HWD.out 0 (by simp)
      rw [List.getD_cons_zero] at hw1
      clear hown hown' hb1 hcl
      go_wp2_with fail
      cases hfo : Ex.formOf x with
      | none =>
        rw [hfo] at HFORM
        have HFO : Hid (∀ w, Calls Tryd.prog 68 #[.string (bstr x)] w fun e w' => e = .returned (.tuple #[.string ByteArray.empty, .bool false]) ∧ w = w') := HFORM
        have HRS : Hid (Ex.cmdRest (x :: ws) = none) := Lib.hid (by rw [Ex.cmdRest, hfo])
        clear HFORM hfo
        refine (HFO.out _).mono ?_
        rintro e w9 ⟨rfl, rfl⟩
        have hr := HRT.out
        have HBX := HBT
        have c0 := hr.cell0 0 (by simp); have c1 := hr.cell0 1 (by simp); have c2 := hr.cell0 2 (by simp); have c3 := hr.cell0 3 (by simp)
        have f0 := hr.frozen0 0 (by simp); have f1 := hr.frozen0 1 (by simp); have f2 := hr.frozen0 2 (by simp); have f3 := hr.frozen0 3 (by simp)
        simp only [Array.toList, List.getElem_cons_succ, List.getElem_cons_zero] at c0 c1 c2 c3
        have HR5 := Lib.hid (res4 hr (.string { data := #[] }) (.slice none 0 0) (.slice none 0 0) (.slice none 0 0))
        have HB9 := Lib.hid (res4_below HBX.out (Nat.le_refl w.heap.size) (.string { data := #[] }) (.slice none 0 0) (.slice none 0 0) (.slice none 0 0))
        clear hr
        go_wp2_with fail
        clear c0 c1 c2 c3 f0 f1 f2 f3
        have g0 := HR5.out.cell0 0 (by simp); have g1 := HR5.out.cell0 1 (by simp); have g2 := HR5.out.cell0 2 (by simp); have g3 := HR5.out.cell0 3 (by simp)
        simp only [List.getElem_cons_succ, List.getElem_cons_zero] at g0 g1 g2 g3
        exact bodyPost_ret (v := .tuple #[.agg #[.string { data := #[] }, .slice none 0 0, .slice none 0 0, .slice none 0 0], .iface 31 (.int .i64 3)]) (by simp [results, Tryd.results28, go_sem, g0, g1, g2, g3]) rfl ⟨by rw [HCM.out, HRS.out]; exact rfl, HB9.out⟩
      | some f =>
        rw [hfo] at HFORM
        have HFO : Hid (∀ w, Calls Tryd.prog 68 #[.string (bstr x)] w fun e w' => e = .returned (.tuple #[.string (bstr f), .bool true]) ∧ w = w') := HFORM
        have hf3 := Ex.formOf_short hfo
        by_cases hfl : ws.length = f.length
        · have hne : ((n : Int) != (f.length : Int) + 1) = false := by rw [bne_eq_false_iff_eq]; have := HNN.out; omega
          obtain ⟨R, hR⟩ : ∃ R, R = Ex.cmdRest (x :: ws) := ⟨_, rfl⟩
          have HR0 : Hid (R = Ex.runC f ws ⟨x, [], [], []⟩) := Lib.hid (by rw [hR, Ex.cmdRest, hfo]; exact if_pos hfl)
          have HCR : Hid (Ex.cmdOf (x :: ws) = R) := Lib.hid (by rw [HCM.out, hR])
          have HLF := Lib.hid hfl; have HF3 := Lib.hid hf3
          clear HFORM hfo hR hfl
          have hw0 := HWD.out 0 (by simp)
          rw [List.getD_cons_zero] at hw0
          refine (HFO.out _).mono ?_
          rintro e w9 ⟨rfl, rfl⟩
          obtain ⟨cb, hcb⟩ : ∃ cb, cb = wt.heap.size := ⟨_, rfl⟩
          have hr1 := RowAt.new wt 58 #[.string (bstr x), .slice none 0 0, .slice none 0 0, .slice none 0 0]
          rw [← hcb] at hr1
          have hbz2 : Below cb wt (wt.alloc (.cells #[.string (bstr x), .slice none 0 0, .slice none 0 0, .slice none 0 0] 58)) := (Below.refl cb wt).alloc (Nat.le_of_eq hcb) _
          have HC0 : Hid (CmS cb wt _ ⟨x, [], [], []⟩ none 0 none 0 none 0) := Lib.hid ⟨hr1, Owns.nil _ _ _ _, Owns.nil _ _ _ _, Owns.nil _ _ _ _, (fun _ _ h => by cases h), hbz2⟩
          have HGA : Hid (gA < cb) := Lib.hid (by rw [hcb]; exact hgA)
          have HRB : Hid (w.heap.size < cb) := Lib.hid (by rw [hcb]; exact HRT.out.lt)
          have HTB : Hid (w.heap.size ≤ cb) := Lib.hid (Nat.le_of_lt HRB.out)
          have HCB := Lib.hid hcb
          clear hr1 hbz2 hgA
          go_wp2_with fail
          rw [← HCB.out]
          clear hcb
          generalize wt.alloc (Obj.cells #[Value.string (bstr x), Value.slice none 0 0, Value.slice none 0 0, Value.slice none 0 0] 58) = w11 at *
          go_loopw [61] (fun v61 wr => ∃ (i : Nat) (c : Ex.Cmd) (aN : Option Addr) (cN : Nat) (aB : Option Addr) (cB : Nat) (aP : Option Addr) (cP : Nat), i ≤ f.length ∧ v61 = .int .i64 i ∧ Hid (CmS cb wt wr c aN cN aB cB aP cP) ∧ Hid (R = Ex.runC (f.drop i) (ws.drop i) c) ∧ Hid (c.n.length ≤ i ∧ c.b.length ≤ i)) (fun v61 _ => f.length - (intOf v61).toNat)
          case atStart => exact ⟨0, ⟨x, [], [], []⟩, none, 0, none, 0, none, 0, Nat.zero_le _, rfl, HC0, HR0, Lib.hid ⟨Nat.le_refl _, Nat.le_refl _⟩⟩
          case round =>
            obtain ⟨i, c, aN, cN, aB, cB, aP, cP, hi, rfl, HC, HRR, HLN⟩ := hrel
            by_cases hlt : i < f.length
            · have hws : i < ws.length := by have := HLF.out; omega
              have hi1 : i + 1 ≤ f.length := hlt
              have hfd : f.drop i = f.getD i 0 :: f.drop (i + 1) := by rw [List.drop_eq_getElem_cons hlt, List.getD_eq_getElem?_getD, List.getElem?_eq_getElem hlt]; rfl
              have hwd : ws.drop i = ws.getD i [] :: ws.drop (i + 1) := by rw [List.drop_eq_getElem_cons hws, List.getD_eq_getElem?_getD, List.getElem?_eq_getElem hws]; rfl
              have hrr := HRR.out
              rw [hfd, hwd, Ex.runC] at hrr
              have hwi := HWL.out (ws.getD i []) (by rw [List.getD_eq_getElem?_getD, List.getElem?_eq_getElem hws]; exact List.mem_cons_of_mem _ (List.getElem_mem hws))
              have hcell : wr.cell? ⟨gA, i + 1, none⟩ = some (.string (bstr (ws.getD i []))) := (HC.out.bel.cell (p := ⟨gA, i + 1, none⟩) HGA.out).trans (HWD.out (i + 1) (by simpa using hws))
              have hfx : ∀ h : i < (bstr f).size, ((bstr f)[i]'h).toNat = (f.getD i 0).toNat := fun h => by rw [bstr_at']
              have hf8 : (f.getD i 0).toNat < 256 := UInt8.toNat_lt _
              have hst0 : ∀ w c, Ex.stepC (f.getD i 0) w c = if (f.getD i 0).toNat = 110 then (Ex.numI w).map fun z => { c with n := c.n ++ [z] } else if (f.getD i 0).toNat = 98 then (Ex.hexB w).map fun t => { c with b := c.b ++ [t] } else (Ex.pathI w).map fun l => { c with p := l } := fun w c => stepC_nat _ w c
              rw [hst0] at hrr
              generalize ws.getD i [] = wi at *
              generalize (f.getD i 0).toNat = fx at *
              have hltI : (i : Int) < (f.length : Int) := by omega
              have hltN : decide (i < f.length) = true := decide_eq_true hlt
              have i1 : ((i : Int) + 1).toNat = i + 1 := by omega
              have hi2n : (i : Int) + 1 < (n : Int) := by have := HLF.out; have := HNN.out; omega
              have hin : i + 1 < n := by have := HLF.out; have := HNN.out; omega
              have HM : Hid (c.n.length + 1 ≤ maxLen) := Lib.hid (by unfold maxLen; have := HLN.out; omega)
              have HY : Hid ((c.n.length + 1) * 8 ≤ 140737488355328) := Lib.hid (by have := HLN.out; omega)
              have HMB : Hid (c.b.length + 1 ≤ maxLen) := Lib.hid (by unfold maxLen; have := HLN.out; omega)
              have HYB : Hid ((c.b.length + 1) * 16 ≤ 140737488355328) := Lib.hid (by have := HLN.out; omega)
              have HLN2 : Hid (c.n.length + 1 ≤ i + 1 ∧ c.b.length ≤ i + 1) := Lib.hid (by have := HLN.out; omega)
              have HLN3 : Hid (c.n.length ≤ i + 1 ∧ c.b.length + 1 ≤ i + 1) := Lib.hid (by have := HLN.out; omega)
              have HLN4 : Hid (c.n.length ≤ i + 1 ∧ c.b.length ≤ i + 1) := Lib.hid (by have := HLN.out; omega)
              clear hfd hwd hst0 HRR
              by_cases e110 : fx = 110
              · have b1 : ((fx : Int) == 110) = true := by rw [beq_iff_eq]; omega
                rw [if_pos e110] at hrr
                have hnum := fun w => Number_w wi w (by have := hwi.2.2; omega) hwi.1
                clear e110 hwi hf8
                cases hx : Ex.numI wi with
                | some z =>
                  rw [hx] at hrr hnum
                  have HRS : Hid (R = Ex.runC (f.drop (i + 1)) (ws.drop (i + 1)) { c with n := c.n ++ [z] }) := Lib.hid hrr
                  have HNU : Hid (∀ w, Calls Tryd.prog 67 #[.string (bstr wi)] w fun e w' => e = .returned (.tuple #[.int .i64 z, .nilIface]) ∧ Below w.heap.size w w') := Lib.hid hnum
                  clear hrr hnum hx
                  go_wp2_with fail
                  refine (HNU.out _).mono ?_
                  rintro e w2 ⟨rfl, hb2⟩
                  have H2 := Lib.hid (HC.out.call hb2)
                  have k1 := H2.out.box.cell0 1 (by simp)
                  simp only [List.getElem_cons_succ, List.getElem_cons_zero] at k1
                  clear hb2
                  go_wp2_with (with_reducible refine wpList_push _ rfl _ _ 55 rfl (cb + 1) 3 (.int .i64 0) 1 8 Tryd.underlying55 infoI64p rfl (by decide) aN c.n.length cN _ rfl H2.out.on [.int .i64 z] rfl (by simp [Value.oneCell']) rfl HM.out HY.out H2.out.sz ?_; intro a' cap' w4 hown4 hgrow4 hloc4 hsz4 hex4; obtain ⟨hb4, hS4⟩ := H2.out.setN hown4 hgrow4 (fun x h => (hloc4 x h).imp_right Nat.le_of_lt); have k4 := hb4.cell0 1 (by simp); have kf4 := hb4.frozen0 1 (by simp); simp only [List.getElem_cons_succ, List.getElem_cons_zero] at k4; have HS4 := Lib.hid hS4; clear hown4 hgrow4 hloc4 hsz4 hex4 hb4 hS4)
                  go_wp2_with fail
                  go_roundw
                  case rel => exact ⟨i + 1, _, a', cap', aB, cB, aP, cP, hi1, by go_num, HS4, Lib.hid HRS.out, Lib.hid (by have := HLN2.out; simp; omega)⟩
                  case measure => simp [intOf]; omega
                | none =>
                  rw [hx] at hrr hnum
                  have HRS : Hid (R = none) := Lib.hid hrr
                  have HNU : Hid (∀ w, Calls Tryd.prog 67 #[.string (bstr wi)] w fun e w' => (∃ k : Int, e = .returned (.tuple #[.int .i64 0, .iface 31 (.int .i64 k)])) ∧ Below w.heap.size w w') := Lib.hid hnum
                  clear hrr hnum hx
                  go_wp2_with fail
                  refine (HNU.out _).mono ?_
                  rintro e w2 ⟨⟨ke, rfl⟩, hb2⟩
                  have H2 := Lib.hid (HC.out.call hb2)
                  have k1 := H2.out.box.cell0 1 (by simp)
                  simp only [List.getElem_cons_succ, List.getElem_cons_zero] at k1
                  clear hb2
                  go_wp2_with (with_reducible refine wpList_push _ rfl _ _ 55 rfl (cb + 1) 3 (.int .i64 0) 1 8 Tryd.underlying55 infoI64p rfl (by decide) aN c.n.length cN _ rfl H2.out.on [.int .i64 0] rfl (by simp [Value.oneCell']) rfl HM.out HY.out H2.out.sz ?_; intro a' cap' w4 hown4 hgrow4 hloc4 hsz4 hex4; obtain ⟨hb4, hS4⟩ := H2.out.setN hown4 hgrow4 (fun x h => (hloc4 x h).imp_right Nat.le_of_lt); have k4 := hb4.cell0 1 (by simp); have kf4 := hb4.frozen0 1 (by simp); simp only [List.getElem_cons_succ, List.getElem_cons_zero] at k4; have HS4 := Lib.hid hS4; clear hown4 hgrow4 hloc4 hsz4 hex4 hb4 hS4; have hr := (HRT.out.below HS4.out.bel HRB.out); have HBX := Lib.hid (HBT.out.trans (HS4.out.bel.mono HTB.out)); have c0 := hr.cell0 0 (by simp); have c1 := hr.cell0 1 (by simp); have c2 := hr.cell0 2 (by simp); have c3 := hr.cell0 3 (by simp); have f0 := hr.frozen0 0 (by simp); have f1 := hr.frozen0 1 (by simp); have f2 := hr.frozen0 2 (by simp); have f3 := hr.frozen0 3 (by simp); simp only [Array.toList, List.getElem_cons_succ, List.getElem_cons_zero] at c0 c1 c2 c3; have HR5 := Lib.hid (res4 hr (.string { data := #[] }) (.slice none 0 0) (.slice none 0 0) (.slice none 0 0)); have HB9 := Lib.hid (res4_below HBX.out (Nat.le_refl w.heap.size) (.string { data := #[] }) (.slice none 0 0) (.slice none 0 0) (.slice none 0 0)); clear hr)
                  clear c0 c1 c2 c3 f0 f1 f2 f3
                  have g0 := HR5.out.cell0 0 (by simp); have g1 := HR5.out.cell0 1 (by simp); have g2 := HR5.out.cell0 2 (by simp); have g3 := HR5.out.cell0 3 (by simp)
                  simp only [List.getElem_cons_succ, List.getElem_cons_zero] at g0 g1 g2 g3
                  exact bodyPost_ret (v := .tuple #[.agg #[.string { data := #[] }, .slice none 0 0, .slice none 0 0, .slice none 0 0], .iface 31 (.int .i64 3)]) (by simp [results, Tryd.results28, go_sem, g0, g1, g2, g3]) rfl ⟨by rw [HCR.out, HRS.out]; exact rfl, HB9.out⟩
              have b1 : ((fx : Int) == 110) = false := by rw [beq_eq_false_iff_ne]; omega
              rw [if_neg e110] at hrr
              by_cases e98 : fx = 98
              · have b2 : ((fx : Int) == 98) = true := by rw [beq_iff_eq]; omega
                rw [if_pos e98] at hrr
                have hnum := fun w => bytes_any wi w hwi.2.1 (by have := hwi.2.2; omega)
                clear e110 e98 hwi hf8 HM HY
                have HM := HMB; have HY := HYB
                cases hx : Ex.hexB wi with
                | some z =>
                  rw [hx] at hrr hnum
                  have HRS : Hid (R = Ex.runC (f.drop (i + 1)) (ws.drop (i + 1)) { c with b := c.b ++ [z] }) := Lib.hid hrr
                  have HNU : Hid (∀ w, Calls Tryd.prog 69 #[.string (bstr wi)] w fun e w' => e = .returned (.tuple #[.string (bstr z), .nilIface]) ∧ Below w.heap.size w w') := Lib.hid hnum
                  clear hrr hnum hx
                  go_wp2_with fail
                  refine (HNU.out _).mono ?_
                  rintro e w2 ⟨rfl, hb2⟩
                  have H2 := Lib.hid (HC.out.call hb2)
                  have k2 := H2.out.box.cell0 2 (by simp)
                  simp only [List.getElem_cons_succ, List.getElem_cons_zero] at k2
                  clear hb2
                  go_wp2_with (with_reducible refine wpList_push _ rfl _ _ 56 rfl (cb + 1) 9 (.string ByteArray.empty) 1 16 Tryd.underlying56 infoStr rfl (by decide) aB c.b.length cB _ rfl H2.out.ob [.string (bstr z)] rfl (by simp [Value.oneCell']) rfl HM.out HY.out H2.out.sz ?_; intro a' cap' w4 hown4 hgrow4 hloc4 hsz4 hex4; obtain ⟨hb4, hS4⟩ := H2.out.setB (t := z) hown4 hgrow4; have k4 := hb4.cell0 2 (by simp); have kf4 := hb4.frozen0 2 (by simp); simp only [List.getElem_cons_succ, List.getElem_cons_zero] at k4; have HS4 := Lib.hid hS4; clear hown4 hgrow4 hloc4 hsz4 hex4 hb4 hS4)
                  go_wp2_with fail
                  go_roundw
                  case rel => exact ⟨i + 1, _, aN, cN, a', cap', aP, cP, hi1, by go_num, HS4, Lib.hid HRS.out, Lib.hid (by have := HLN3.out; simp; omega)⟩
                  case measure => simp [intOf]; omega
                | none =>
                  rw [hx] at hrr hnum
                  have HRS : Hid (R = none) := Lib.hid hrr
                  have HNU : Hid (∀ w, Calls Tryd.prog 69 #[.string (bstr wi)] w fun e w' => e = .returned (.tuple #[.string ByteArray.empty, .iface 31 (.int .i64 3)]) ∧ Below w.heap.size w w') := Lib.hid hnum
                  clear hrr hnum hx
                  go_wp2_with fail
                  refine (HNU.out _).mono ?_
                  rintro e w2 ⟨rfl, hb2⟩
                  have H2 := Lib.hid (HC.out.call hb2)
                  have k2 := H2.out.box.cell0 2 (by simp)
                  simp only [List.getElem_cons_succ, List.getElem_cons_zero] at k2
                  clear hb2
                  go_wp2_with (with_reducible refine wpList_push _ rfl _ _ 56 rfl (cb + 1) 9 (.string ByteArray.empty) 1 16 Tryd.underlying56 infoStr rfl (by decide) aB c.b.length cB _ rfl H2.out.ob [.string ByteArray.empty] rfl (by simp [Value.oneCell']) rfl HM.out HY.out H2.out.sz ?_; intro a' cap' w4 hown4 hgrow4 hloc4 hsz4 hex4; obtain ⟨hb4, hS4⟩ := H2.out.setB (t := []) hown4 hgrow4; have k4 := hb4.cell0 2 (by simp); have kf4 := hb4.frozen0 2 (by simp); simp only [List.getElem_cons_succ, List.getElem_cons_zero] at k4; have HS4 := Lib.hid hS4; clear hown4 hgrow4 hloc4 hsz4 hex4 hb4 hS4; have hr := (HRT.out.below HS4.out.bel HRB.out); have HBX := Lib.hid (HBT.out.trans (HS4.out.bel.mono HTB.out)); have c0 := hr.cell0 0 (by simp); have c1 := hr.cell0 1 (by simp); have c2 := hr.cell0 2 (by simp); have c3 := hr.cell0 3 (by simp); have f0 := hr.frozen0 0 (by simp); have f1 := hr.frozen0 1 (by simp); have f2 := hr.frozen0 2 (by simp); have f3 := hr.frozen0 3 (by simp); simp only [Array.toList, List.getElem_cons_succ, List.getElem_cons_zero] at c0 c1 c2 c3; have HR5 := Lib.hid (res4 hr (.string { data := #[] }) (.slice none 0 0) (.slice none 0 0) (.slice none 0 0)); have HB9 := Lib.hid (res4_below HBX.out (Nat.le_refl w.heap.size) (.string { data := #[] }) (.slice none 0 0) (.slice none 0 0) (.slice none 0 0)); clear hr)
                  clear c0 c1 c2 c3 f0 f1 f2 f3
                  have g0 := HR5.out.cell0 0 (by simp); have g1 := HR5.out.cell0 1 (by simp); have g2 := HR5.out.cell0 2 (by simp); have g3 := HR5.out.cell0 3 (by simp)
                  simp only [List.getElem_cons_succ, List.getElem_cons_zero] at g0 g1 g2 g3
                  exact bodyPost_ret (v := .tuple #[.agg #[.string { data := #[] }, .slice none 0 0, .slice none 0 0, .slice none 0 0], .iface 31 (.int .i64 3)]) (by simp [results, Tryd.results28, go_sem, g0, g1, g2, g3]) rfl ⟨by rw [HCR.out, HRS.out]; exact rfl, HB9.out⟩
              have b2 : ((fx : Int) == 98) = false := by rw [beq_eq_false_iff_ne]; omega
              rw [if_neg e98] at hrr
              have hnum := fun w => path_any wi w hwi.2.2
              clear e110 e98 hwi hf8 HM HY
              cases hx : Ex.pathI wi with
              | some z =>
                rw [hx] at hrr hnum
                have HRS : Hid (R = Ex.runC (f.drop (i + 1)) (ws.drop (i + 1)) { c with p := z }) := Lib.hid hrr
                have HNU : Hid (∀ w, Calls Tryd.prog 70 #[.string (bstr wi)] w fun e w' => (∃ a cap, e = .returned (.tuple #[.slice a z.length cap, .nilIface]) ∧ Owns w' w.heap.size 3 1 a z.length cap (ivals z)) ∧ Below w.heap.size w w') := Lib.hid hnum
                clear hrr hnum hx
                go_wp2_with fail
                refine (HNU.out _).mono ?_
                rintro e w2 ⟨⟨a', cap', rfl, hown2⟩, hb2⟩
                have HS4 := Lib.hid (HC.out.setP hown2 hb2)
                have k3 := (HC.out.call hb2).box.cell0 3 (by simp)
                have kf3 := (HC.out.call hb2).box.frozen0 3 (by simp)
                simp only [List.getElem_cons_succ, List.getElem_cons_zero] at k3
                clear hb2 hown2
                go_wp2_with fail
                go_roundw
                case rel => exact ⟨i + 1, _, aN, cN, aB, cB, a', cap', hi1, by go_num, HS4, Lib.hid HRS.out, Lib.hid HLN4.out⟩
                case measure => simp [intOf]; omega
              | none =>
                rw [hx] at hrr hnum
                have HRS : Hid (R = none) := Lib.hid hrr
                have HNU : Hid (∀ w, Calls Tryd.prog 70 #[.string (bstr wi)] w fun e w' => e = .returned (.tuple #[.slice none 0 0, .iface 31 (.int .i64 3)]) ∧ Below w.heap.size w w') := Lib.hid hnum
                clear hrr hnum hx
                go_wp2_with fail
                refine (HNU.out _).mono ?_
                rintro e w2 ⟨rfl, hb2⟩
                have HS4 : Hid (CmS cb wt (w2.setCell ⟨cb, 3, none⟩ (.slice none 0 0)) { c with p := [] } aN cN aB cB none 0) := Lib.hid (HC.out.setP (l := []) (Owns.nil w2 _ _ _) hb2)
                have k3 := (HC.out.call hb2).box.cell0 3 (by simp)
                have kf3 := (HC.out.call hb2).box.frozen0 3 (by simp)
                simp only [List.getElem_cons_succ, List.getElem_cons_zero] at k3
                clear hb2
                have hr := (HRT.out.below HS4.out.bel HRB.out)
                have HBX := Lib.hid (HBT.out.trans (HS4.out.bel.mono HTB.out))
                have c0 := hr.cell0 0 (by simp); have c1 := hr.cell0 1 (by simp); have c2 := hr.cell0 2 (by simp); have c3 := hr.cell0 3 (by simp)
                have f0 := hr.frozen0 0 (by simp); have f1 := hr.frozen0 1 (by simp); have f2 := hr.frozen0 2 (by simp); have f3 := hr.frozen0 3 (by simp)
                simp only [Array.toList, List.getElem_cons_succ, List.getElem_cons_zero] at c0 c1 c2 c3
                have HR5 := Lib.hid (res4 hr (.string { data := #[] }) (.slice none 0 0) (.slice none 0 0) (.slice none 0 0))
                have HB9 := Lib.hid (res4_below HBX.out (Nat.le_refl w.heap.size) (.string { data := #[] }) (.slice none 0 0) (.slice none 0 0) (.slice none 0 0))
                clear hr
                go_wp2_with fail
                clear c0 c1 c2 c3 f0 f1 f2 f3
                have g0 := HR5.out.cell0 0 (by simp); have g1 := HR5.out.cell0 1 (by simp); have g2 := HR5.out.cell0 2 (by simp); have g3 := HR5.out.cell0 3 (by simp)
                simp only [List.getElem_cons_succ, List.getElem_cons_zero] at g0 g1 g2 g3
                exact bodyPost_ret (v := .tuple #[.agg #[.string { data := #[] }, .slice none 0 0, .slice none 0 0, .slice none 0 0], .iface 31 (.int .i64 3)]) (by simp [results, Tryd.results28, go_sem, g0, g1, g2, g3]) rfl ⟨by rw [HCR.out, HRS.out]; exact rfl, HB9.out⟩
            · obtain rfl : i = f.length := by omega
              have hd9 : decide ((f.length : Int) < (f.length : Int)) = false := by simp
              have hrr := HRR.out
              rw [List.drop_length, Ex.runC] at hrr
              have HRS : Hid (R = some c) := Lib.hid hrr
              have k0 := HC.out.box.cell0 0 (by simp); have k1 := HC.out.box.cell0 1 (by simp); have k2 := HC.out.box.cell0 2 (by simp); have k3 := HC.out.box.cell0 3 (by simp)
              simp only [List.getElem_cons_succ, List.getElem_cons_zero] at k0 k1 k2 k3
              have hr := (HRT.out.below HC.out.bel HRB.out)
              have HBX := Lib.hid (HBT.out.trans (HC.out.bel.mono HTB.out))
              have c0 := hr.cell0 0 (by simp); have c1 := hr.cell0 1 (by simp); have c2 := hr.cell0 2 (by simp); have c3 := hr.cell0 3 (by simp)
              have f0 := hr.frozen0 0 (by simp); have f1 := hr.frozen0 1 (by simp); have f2 := hr.frozen0 2 (by simp); have f3 := hr.frozen0 3 (by simp)
              simp only [Array.toList, List.getElem_cons_succ, List.getElem_cons_zero] at c0 c1 c2 c3
              have HR5 := Lib.hid (res4 hr (.string (bstr c.word)) (.slice aN c.n.length cN) (.slice aB c.b.length cB) (.slice aP c.p.length cP))
              have HB9 := Lib.hid (res4_below HBX.out (Nat.le_refl w.heap.size) (.string (bstr c.word)) (.slice aN c.n.length cN) (.slice aB c.b.length cB) (.slice aP c.p.length cP))
              clear hr
              have HO1 := Lib.hid (own4 HC.out.on (Nat.le_of_lt HRB.out) (.string (bstr c.word)) (.slice aN c.n.length cN) (.slice aB c.b.length cB) (.slice aP c.p.length cP))
              have HO2 := Lib.hid (own4 HC.out.ob (Nat.le_of_lt HRB.out) (.string (bstr c.word)) (.slice aN c.n.length cN) (.slice aB c.b.length cB) (.slice aP c.p.length cP))
              have HO3 := Lib.hid (own4 HC.out.op (Nat.le_of_lt HRB.out) (.string (bstr c.word)) (.slice aN c.n.length cN) (.slice aB c.b.length cB) (.slice aP c.p.length cP))
              clear hrr hlt
              go_wp2_with fail
              clear c0 c1 c2 c3 f0 f1 f2 f3
              have g0 := HR5.out.cell0 0 (by simp); have g1 := HR5.out.cell0 1 (by simp); have g2 := HR5.out.cell0 2 (by simp); have g3 := HR5.out.cell0 3 (by simp)
              simp only [List.getElem_cons_succ, List.getElem_cons_zero] at g0 g1 g2 g3
              have hwb : w.heap.size ≤ cb + 1 := Nat.le_succ_of_le (Nat.le_of_lt HRB.out)
              exact bodyPost_ret (v := .tuple #[.agg #[.string (bstr c.word), .slice aN c.n.length cN, .slice aB c.b.length cB, .slice aP c.p.length cP], .nilIface]) (by simp [results, Tryd.results28, go_sem, g0, g1, g2, g3]) rfl ⟨by rw [HCR.out, HRS.out]; exact ⟨aN, cN, aB, cB, aP, cP, rfl, HO1.out.mono hwb, HO2.out.mono hwb, HO3.out.mono hwb⟩, HB9.out⟩
        · have hne : ((n : Int) != (f.length : Int) + 1) = true := by rw [bne_iff_ne]; have := HNN.out; omega
          have HRS : Hid (Ex.cmdRest (x :: ws) = none) := Lib.hid (by rw [Ex.cmdRest, hfo]; exact if_neg hfl)
          clear HFORM hfo hfl
          refine (HFO.out _).mono ?_
          rintro e w9 ⟨rfl, rfl⟩
          have hr := HRT.out
          have HBX := HBT
          have c0 := hr.cell0 0 (by simp); have c1 := hr.cell0 1 (by simp); have c2 := hr.cell0 2 (by simp); have c3 := hr.cell0 3 (by simp)
          have f0 := hr.frozen0 0 (by simp); have f1 := hr.frozen0 1 (by simp); have f2 := hr.frozen0 2 (by simp); have f3 := hr.frozen0 3 (by simp)
          simp only [Array.toList, List.getElem_cons_succ, List.getElem_cons_zero] at c0 c1 c2 c3
          have HR5 := Lib.hid (res4 hr (.string { data := #[] }) (.slice none 0 0) (.slice none 0 0) (.slice none 0 0))
          have HB9 := Lib.hid (res4_below HBX.out (Nat.le_refl w.heap.size) (.string { data := #[] }) (.slice none 0 0) (.slice none 0 0) (.slice none 0 0))
          clear hr
          go_wp2_with fail
          clear c0 c1 c2 c3 f0 f1 f2 f3
          have g0 := HR5.out.cell0 0 (by simp); have g1 := HR5.out.cell0 1 (by simp); have g2 := HR5.out.cell0 2 (by simp); have g3 := HR5.out.cell0 3 (by simp)
          simp only [List.getElem_cons_succ, List.getElem_cons_zero] at g0 g1 g2 g3
          exact bodyPost_ret (v := .tuple #[.agg #[.string { data := #[] }, .slice none 0 0, .slice none 0 0, .slice none 0 0], .iface 31 (.int .i64 3)]) (by simp [results, Tryd.results28, go_sem, g0, g1, g2, g3]) rfl ⟨by rw [HCM.out, HRS.out]; exact rfl, HB9.out⟩
end Go.Proofs.YtnmbakibiaedhaaDoor
