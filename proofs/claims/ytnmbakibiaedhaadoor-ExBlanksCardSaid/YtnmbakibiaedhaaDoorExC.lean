/- The law ExBlanks, walked. -/
import Derived.Test.YtnmbakibiaedhaaDoorExB
import Derived.Test.YtnmbakibiaedhaaDoorSlEqual
import Derived.Test.YtnmbakibiaedhaaDoorErrTell
import Derived.Test.YtnmbakibiaedhaaDoorPick
namespace Go.Proofs.YtnmbakibiaedhaaDoor
open Go.RowKit Go.Shelf
set_option linter.unusedVariables false
set_option linter.unusedSimpArgs false
def noCmd : Ex.Cmd := ⟨[], [], [], []⟩
def errOf (o : Option Ex.Cmd) : Value := match o with
  | some _ => .nilIface
  | none => .iface 31 (.int .i64 3)
def Cmd3 (w : World) (B : Nat) (c : Ex.Cmd) (aN : Option Addr) (cN : Nat) (aB : Option Addr) (cB : Nat) (aP : Option Addr) (cP : Nat) : Prop :=
  Owns w B 3 1 aN c.n.length cN (ivals c.n) ∧ Owns w B 9 1 aB c.b.length cB (strVals c.b) ∧ Owns w B 3 1 aP c.p.length cP (ivals c.p)
theorem Cmd3.below {w w' : World} {B : Nat} {c : Ex.Cmd} {aN aB aP : Option Addr} {cN cB cP : Nat} (h : Cmd3 w B c aN cN aB cB aP cP) (hb : Below w.heap.size w w') : Cmd3 w' B c aN cN aB cB aP cP :=
  ⟨h.1.below hb (Nat.le_refl _), h.2.1.below hb (Nat.le_refl _), h.2.2.below hb (Nat.le_refl _)⟩
theorem CmdOut.as {o : Option Ex.Cmd} {B : Nat} {e : Ending} {w' : World} (h : CmdOut o B e w') : ∃ aN cN aB cB aP cP, e = .returned (.tuple #[.agg #[.string (bstr (o.getD noCmd).word), .slice aN (o.getD noCmd).n.length cN, .slice aB (o.getD noCmd).b.length cB, .slice aP (o.getD noCmd).p.length cP], errOf o]) ∧ Cmd3 w' B (o.getD noCmd) aN cN aB cB aP cP := by
  cases o with
  | none => exact ⟨none, 0, none, 0, none, 0, h, Owns.nil _ _ _ _, Owns.nil _ _ _ _, Owns.nil _ _ _ _⟩
  | some c => exact h
theorem Parse2_any (l : List UInt8) (w : World) (hl : l.length ≤ 2000) :
    Calls Tryd.prog 28 #[.string (bstr l)] w fun e w' => (∃ aN cN aB cB aP cP, e = .returned (.tuple #[.agg #[.string (bstr ((Ex.cmdOf (Ex.words l)).getD noCmd).word), .slice aN ((Ex.cmdOf (Ex.words l)).getD noCmd).n.length cN, .slice aB ((Ex.cmdOf (Ex.words l)).getD noCmd).b.length cB, .slice aP ((Ex.cmdOf (Ex.words l)).getD noCmd).p.length cP], errOf (Ex.cmdOf (Ex.words l))]) ∧
      Cmd3 w' w.heap.size ((Ex.cmdOf (Ex.words l)).getD noCmd) aN cN aB cB aP cP) ∧ Below w.heap.size w w' :=
  (ParseX_any l w hl).mono fun e w' ⟨h1, h2⟩ => ⟨h1.as, h2⟩
theorem strs_get (L : List (List UInt8)) (j : Nat) (hj : j < L.length) : (strVals L)[j]? = some (.string ((L.map bstr).getD j ByteArray.empty)) := by
  unfold strVals
  rw [List.getElem?_map, List.getElem?_eq_getElem hj, List.getD_eq_getElem?_getD, List.getElem?_map, List.getElem?_eq_getElem hj]
  rfl
theorem EqualS_yes (a b : Option Addr) (n c d B1 B2 : Nat) (L : List (List UInt8)) (w : World) (hL : L.length = n) (hn : n ≤ 4611686018427387904) (ha : Owns w B1 9 1 a n c (strVals L)) (hb : Owns w B2 9 1 b n d (strVals L)) :
    Calls Tryd.prog 60 #[.slice a n c, .slice b n d] w fun e w' => e = .returned (.bool true) ∧ ∃ k, w' = w.drewN k := by
  by_cases h0 : n = 0
  · subst h0
    refine (Tryd.slices_Equal_string_empty a b c 0 d w (by omega)).mono ?_
    rintro e w' ⟨rfl, rfl⟩
    exact ⟨rfl, 0, rfl⟩
  · cases a with
    | none => exact absurd ha.of_none.1 h0
    | some x =>
      cases b with
      | none => exact absurd hb.of_none.1 h0
      | some y =>
        obtain ⟨hx, _, _, _, r1⟩ := ha.row
        obtain ⟨hy, _, _, _, r2⟩ := hb.row
        rw [hx, hy]
        generalize x.block = g1 at *
        generalize y.block = g2 at *
        have hcell : ∀ g, RowAt w g 0 9 (strVals L) → ∀ j, j < (L.map bstr).length → w.cell? ⟨g, 0 + j, none⟩ = some (.string ((L.map bstr).getD j ByteArray.empty)) := by
          intro g hr j hj
          rw [List.length_map] at hj
          have hj2 : j < (strVals L).length := by rw [strVals_length]; exact hj
          have h1 := hr.cell0 j hj2
          have h2 := strs_get L j hj
          rw [List.getElem?_eq_getElem hj2] at h2
          rw [Nat.zero_add, h1]
          exact h2
        refine (Tryd.slices_Equal_string g1 0 n c g2 0 n d (L.map bstr) (L.map bstr) w (by rw [List.length_map]; omega) (by rw [List.length_map]; omega) (by omega) (by omega) (hcell g1 r1) (hcell g2 r2)).mono ?_
        rintro e w' ⟨rfl, h⟩
        exact ⟨ret_bool (by simp), h⟩
theorem Cmd3.drewN {w : World} {B : Nat} {c : Ex.Cmd} {aN aB aP : Option Addr} {cN cB cP : Nat} (h : Cmd3 w B c aN cN aB cB aP cP) (k : Nat) : Cmd3 (w.drewN k) B c aN cN aB cB aP cP := ⟨h.1.drewN k, h.2.1.drewN k, h.2.2.drewN k⟩
set_option maxRecDepth 100000 in
set_option maxHeartbeats 1000000 in
theorem same_any (c : Ex.Cmd) (aN : Option Addr) (cN : Nat) (aB : Option Addr) (cB : Nat) (aP : Option Addr) (cP : Nat) (bN : Option Addr) (dN : Nat) (bB : Option Addr) (dB : Nat) (bP : Option Addr) (dP B1 B2 : Nat) (w : World) (hn : c.n.length ≤ 100000) (hb : c.b.length ≤ 100000) (hp : c.p.length ≤ 100000)
    (h1 : Cmd3 w B1 c aN cN aB cB aP cP) (h2 : Cmd3 w B2 c bN dN bB dB bP dP) :
    Calls Tryd.prog 30 #[.agg #[.string (bstr c.word), .slice aN c.n.length cN, .slice aB c.b.length cB, .slice aP c.p.length cP], .agg #[.string (bstr c.word), .slice bN c.n.length dN, .slice bB c.b.length dB, .slice bP c.p.length dP]] w fun e w' => e = .returned (.bool true) ∧ Below w.heap.size w w' := by
  have hbe := (((Below.refl w.heap.size w).alloc (Nat.le_refl _) (.cells #[.string (bstr c.word), .slice aN c.n.length cN, .slice aB c.b.length cB, .slice aP c.p.length cP] 58)).alloc (by simp) (.cells #[.string (bstr c.word), .slice bN c.n.length dN, .slice bB c.b.length dB, .slice bP c.p.length dP] 58))
  have hr1 := (RowAt.new w 58 #[.string (bstr c.word), .slice aN c.n.length cN, .slice aB c.b.length cB, .slice aP c.p.length cP]).alloc (.cells #[.string (bstr c.word), .slice bN c.n.length dN, .slice bB c.b.length dB, .slice bP c.p.length dP] 58)
  have hr2 := RowAt.new' (w.alloc (.cells #[.string (bstr c.word), .slice aN c.n.length cN, .slice aB c.b.length cB, .slice aP c.p.length cP] 58)) (w.heap.size + 1) (by simp) 58 #[.string (bstr c.word), .slice bN c.n.length dN, .slice bB c.b.length dB, .slice bP c.p.length dP]
  have g1 := h1.below hbe
  have g2 := h2.below hbe
  have HB := Lib.hid hbe; have HR1 := Lib.hid hr1; have HR2 := Lib.hid hr2; have HG1 := Lib.hid g1; have HG2 := Lib.hid g2
  have HN := Lib.hid hn; have HBL := Lib.hid hb; have HP := Lib.hid hp
  clear hbe hr1 hr2 g1 g2 h1 h2 hn hb hp
  go_enter Tryd.func30, Tryd.ntmps30
  go_wp2_with fail
  refine (Equal_yes aN bN c.n.length c.n.length cN dN c.n _ rfl rfl (by have := HN.out; omega) HG1.out.1.readsI HG2.out.1.readsI).mono ?_
  rintro e w1 ⟨rfl, k1, hw1⟩
  have HG1 := Lib.hid (HG1.out.drewN k1); have HG2 := Lib.hid (HG2.out.drewN k1)
  have HR1 := Lib.hid (HR1.out.drewN k1); have HR2 := Lib.hid (HR2.out.drewN k1); have HB := Lib.hid (bdrewN HB.out k1)
  rw [← hw1] at HG1 HG2 HR1 HR2 HB
  clear hw1
  have a0 := HR1.out.cell0 2 (by simp); have b0 := HR2.out.cell0 2 (by simp)
  simp only [Array.toList, List.getElem_cons_succ, List.getElem_cons_zero] at a0 b0
  go_wp2_with fail
  refine (EqualS_yes aB bB c.b.length cB dB B1 B2 c.b _ rfl (by have := HBL.out; omega) HG1.out.2.1 HG2.out.2.1).mono ?_
  rintro e w2 ⟨rfl, k2, hw2⟩
  have HG1 := Lib.hid (HG1.out.drewN k2); have HG2 := Lib.hid (HG2.out.drewN k2)
  have HR1 := Lib.hid (HR1.out.drewN k2); have HR2 := Lib.hid (HR2.out.drewN k2); have HB := Lib.hid (bdrewN HB.out k2)
  rw [← hw2] at HG1 HG2 HR1 HR2 HB
  clear hw2 a0 b0
  have a3 := HR1.out.cell0 3 (by simp); have b3 := HR2.out.cell0 3 (by simp)
  simp only [Array.toList, List.getElem_cons_succ, List.getElem_cons_zero] at a3 b3
  go_wp2_with fail
  refine (Equal_yes aP bP c.p.length c.p.length cP dP c.p _ rfl rfl (by have := HP.out; omega) HG1.out.2.2.readsI HG2.out.2.2.readsI).mono ?_
  rintro e w3 ⟨rfl, k3, rfl⟩
  go_wp2_with fail
  go_ret
  exact ⟨rfl, bdrewN HB.out k3⟩
def linedL : List UInt8 := [32, 102, 105, 108, 108, 32, 49, 32, 32, 48, 120, 52, 32, 102, 102]
set_option maxRecDepth 100000 in
set_option maxHeartbeats 1000000 in
theorem lined_any (w : World) : Calls Tryd.prog 25 #[] w fun e w' => e = .returned (.bool true) ∧ Below w.heap.size w w' := by
  have h1 := fun w => ParseX_any linedL w (by simp [linedL])
  have hl : Ex.cmdOf (Ex.words linedL) = some ⟨[102, 105, 108, 108], [1, 4], [[255]], []⟩ := Ex.lined_cmd
  rw [hl] at h1
  have H1 : Hid (∀ w, Calls Tryd.prog 28 #[.string { data := #[32, 102, 105, 108, 108, 32, 49, 32, 32, 48, 120, 52, 32, 102, 102] }] w fun e w' => (∃ aN cN aB cB aP cP, e = .returned (.tuple #[.agg #[.string { data := #[102, 105, 108, 108] }, .slice aN 2 cN, .slice aB 1 cB, .slice aP 0 cP], .nilIface]) ∧
      Owns w' w.heap.size 3 1 aN 2 cN (ivals [1, 4]) ∧ Owns w' w.heap.size 9 1 aB 1 cB (strVals [[255]]) ∧ Owns w' w.heap.size 3 1 aP 0 cP (ivals [])) ∧ Below w.heap.size w w') := Lib.hid h1
  clear h1 hl
  go_enter Tryd.func25, Tryd.ntmps25
  go_wp2_with fail
  refine (H1.out _).mono ?_
  rintro e w1 ⟨⟨aN, cN, aB, cB, aP, cP, rfl, hn, hb, hp⟩, hb1⟩
  have hr := RowAt.new w1 58 #[.string { data := #[102, 105, 108, 108] }, .slice aN 2 cN, .slice aB 1 cB, .slice aP 0 cP]
  have HR := Lib.hid hr
  have HN := Lib.hid hn; have HBO := Lib.hid hb; have HB1 := Lib.hid hb1
  clear hr hn hb hp hb1
  go_wp2_with fail
  have ho := (HN.out.alloc (.cells #[.string { data := #[102, 105, 108, 108] }, .slice aN 2 cN, .slice aB 1 cB, .slice aP 0 cP] 58)).alloc (.cells #[.int .i64 1, .int .i64 4] 3)
  have hs := (HBO.out.alloc (.cells #[.string { data := #[102, 105, 108, 108] }, .slice aN 2 cN, .slice aB 1 cB, .slice aP 0 cP] 58)).alloc (.cells #[.int .i64 1, .int .i64 4] 3)
  have hl := RowAt.new' (w1.alloc (.cells #[.string { data := #[102, 105, 108, 108] }, .slice aN 2 cN, .slice aB 1 cB, .slice aP 0 cP] 58)) (w1.heap.size + 1) (by simp) 3 #[.int .i64 1, .int .i64 4]
  have hr2 := HR.out.alloc (.cells #[.int .i64 1, .int .i64 4] 3)
  have hb2 := (HB1.out.alloc HB1.out.size (.cells #[.string { data := #[102, 105, 108, 108] }, .slice aN 2 cN, .slice aB 1 cB, .slice aP 0 cP] 58)).alloc (by have := HB1.out.size; simp; omega) (.cells #[.int .i64 1, .int .i64 4] 3)
  obtain ⟨g1, hg1⟩ : ∃ g1, g1 = w1.heap.size := ⟨_, rfl⟩
  rw [← hg1] at hl hr2 ⊢
  clear hg1 HR HN HBO
  generalize (w1.alloc (.cells #[.string { data := #[102, 105, 108, 108] }, .slice aN 2 cN, .slice aB 1 cB, .slice aP 0 cP] 58)).alloc (.cells #[.int .i64 1, .int .i64 4] 3) = w2 at *
  have HS := Lib.hid hs; have HR2 := Lib.hid hr2; have HB2 := Lib.hid hb2
  refine (Equal_yes aN (some ⟨g1 + 1, 0, none⟩) 2 2 cN 2 [1, 4] _ rfl rfl (by omega) ho.readsI (RowAt.readsI (L := [1, 4]) hl)).mono ?_
  rintro e w3 ⟨rfl, k3, hw3⟩
  have HS := Lib.hid (HS.out.drewN k3); have HR2 := Lib.hid (HR2.out.drewN k3); have HB2 := Lib.hid (bdrewN HB2.out k3)
  rw [← hw3] at HS HR2 HB2
  clear hw3 ho hs hl hr2 hb2
  have a2 := HR2.out.cell0 2 (by simp)
  simp only [Array.toList, List.getElem_cons_succ, List.getElem_cons_zero] at a2
  go_wp2_with fail
  have hl3 : Owns (w3.alloc (.cells #[.string { data := #[255] }] 9)) 0 9 1 (some ⟨w3.heap.size, 0, none⟩) 1 1 (strVals [[255]]) :=
    Owns.of_row rfl _ w3.heap.size #[.string { data := #[255] }] (Nat.zero_le _) (heap_alloc_new w3 _) rfl (Nat.le_refl _) (by unfold maxLen; omega) rfl
  refine (EqualS_yes aB (some ⟨w3.heap.size, 0, none⟩) 1 cB 1 _ 0 [[255]] _ rfl (by omega) (HS.out.alloc _) hl3).mono ?_
  rintro e w4 ⟨rfl, k4, rfl⟩
  go_wp2_with fail
  go_ret
  exact ⟨rfl, bdrewN (HB2.out.alloc HB2.out.size _) k4⟩
theorem rep_one (k : Nat) : Lib.repeatL ([32] : List UInt8) k = List.replicate k 32 := by
  induction k with
  | zero => rfl
  | succ k ih => rw [Lib.repeatL, ih]; rfl
theorem count_le (s : List UInt8) : Lib.countB (bstr s) (bstr [32]) ≤ s.length := by
  show Lib.count s [32] ≤ s.length
  rw [Ex.count_one]
  exact List.count_le_length
theorem shaped_up {w w' : World} (h : w.ShapedOpen Tryd.prog) (hb : Below w.heap.size w w') : w'.ShapedOpen Tryd.prog := h.keptBut (hb.frame fun _ => False) (fun _ h => h.elim)
theorem numI_nat {f : UInt8} {w : List UInt8} {c d : Ex.Cmd} (h : Ex.stepC f w c = some d) : d.n.length ≤ c.n.length + 1 ∧ d.b.length ≤ c.b.length + 1 ∧ (d.p.length ≤ c.p.length ∨ d.p.length ≤ w.length + 1) := by
  unfold Ex.stepC at h
  split at h
  · cases hx : Ex.numI w with
    | none => rw [hx] at h; cases h
    | some z => rw [hx] at h; cases h; simp
  · split at h
    · cases hx : Ex.hexB w with
      | none => rw [hx] at h; cases h
      | some z => rw [hx] at h; cases h; simp
    · cases hx : Ex.pathI w with
      | none => rw [hx] at h; cases h
      | some l =>
        rw [hx] at h; cases h
        refine ⟨by simp, by simp, .inr ?_⟩
        unfold Ex.pathI at hx
        split at hx
        · cases hx; simp
        · have hl := (Ex.partDot_len w).2
          have key : ∀ (L : List (List UInt8)) (l : List Int), Ex.pathTo L = some l → l.length = L.length := by
            intro L
            induction L with
            | nil => intro l h; cases h; rfl
            | cons y r ih =>
              intro l h
              rw [Ex.pathTo] at h
              cases hy : Num.parseOf 10 y with
              | inr e => rw [hy] at h; cases h
              | inl n =>
                rw [hy] at h
                cases hr : Ex.pathTo r with
                | none => rw [hr] at h; cases h
                | some o =>
                  rw [hr] at h
                  simp only [Option.map_some, Option.some.injEq] at h
                  rw [← h, List.length_cons, ih o hr, List.length_cons]
          have := key _ _ hx
          show l.length ≤ w.length + 1
          omega
theorem run_short (M : Nat) : ∀ (f : List UInt8) (ws : List (List UInt8)) (c d : Ex.Cmd), (∀ x ∈ ws, x.length ≤ M) → Ex.runC f ws c = some d → d.n.length ≤ c.n.length + f.length ∧ d.b.length ≤ c.b.length + f.length ∧ d.p.length ≤ max c.p.length (M + 1)
  | [], ws, c, d, hM, h => by
    rw [Ex.runC] at h; cases h
    exact ⟨by simp, by simp, by omega⟩
  | _ :: _, [], c, d, hM, h => by rw [Ex.runC] at h; cases h
  | f :: fs, x :: ws, c, d, hM, h => by
    rw [Ex.runC] at h
    cases hs : Ex.stepC f x c with
    | none => rw [hs] at h; cases h
    | some c1 =>
      rw [hs] at h
      have h1 := numI_nat hs
      have h2 := run_short M fs ws c1 d (fun y hy => hM y (by simp [hy])) h
      have hx := hM x (by simp)
      refine ⟨by simp; omega, by simp; omega, ?_⟩
      omega
theorem cmd_short (M : Nat) (W : List (List UInt8)) (hM : ∀ x ∈ W, x.length ≤ M) : ((Ex.cmdOf W).getD noCmd).n.length ≤ M + 5 ∧ ((Ex.cmdOf W).getD noCmd).b.length ≤ M + 5 ∧ ((Ex.cmdOf W).getD noCmd).p.length ≤ M + 5 := by
  have hrest : ∀ d, Ex.cmdRest W = some d → d.n.length ≤ M + 5 ∧ d.b.length ≤ M + 5 ∧ d.p.length ≤ M + 5 := by
    intro d h
    cases W with
    | nil => cases h
    | cons x ws =>
      rw [Ex.cmdRest] at h
      cases hf : Ex.formOf x with
      | none => rw [hf] at h; cases h
      | some f =>
        rw [hf] at h
        simp only at h
        split at h
        · have h3 := Ex.formOf_short hf
          have := run_short M f ws ⟨x, [], [], []⟩ d (fun y hy => hM y (by simp [hy])) h
          simp at this
          omega
        · cases h
  have hno : noCmd.n.length ≤ M + 5 ∧ noCmd.b.length ≤ M + 5 ∧ noCmd.p.length ≤ M + 5 := ⟨Nat.zero_le _, Nat.zero_le _, Nat.zero_le _⟩
  have hr : ((Ex.cmdRest W).getD noCmd).n.length ≤ M + 5 ∧ ((Ex.cmdRest W).getD noCmd).b.length ≤ M + 5 ∧ ((Ex.cmdRest W).getD noCmd).p.length ≤ M + 5 := by
    cases h : Ex.cmdRest W with
    | none => exact hno
    | some d => exact hrest d h
  unfold Ex.cmdOf
  split
  · split
    · simp
    · exact hr
  · exact hr
set_option maxRecDepth 100000 in
set_option maxHeartbeats 2000000 in
theorem ExBlanks_in (s : List UInt8) (n : Int) (w : World) (hg : ErrType w) (hsh : w.ShapedOpen Tryd.prog) :
    Calls Tryd.prog 8 #[.string (bstr s), .int .i64 n] w fun e w' => e = .returned (.bool true) ∧ Below w.heap.size w w' := by
  have HLI := Lib.hid (fun w => lined_any w)
  have HG := Lib.hid hg; have HSH := Lib.hid hsh
  clear hg hsh
  by_cases hs : 200 < s.length
  · have d1 : decide ((200 : Int) < (s.length : Int)) = true := decide_eq_true (by omega)
    have d1n : decide (200 < s.length) = true := decide_eq_true hs
    clear hs
    go_enter Tryd.func8, Tryd.ntmps8
    go_wp2_with fail
    refine (HLI.out _).mono ?_
    rintro e w1 ⟨rfl, hb1⟩
    go_wp2_with fail
    go_ret
    exact ⟨rfl, hb1⟩
  have d1 : decide ((200 : Int) < (s.length : Int)) = false := decide_eq_false (by omega)
  have d1n : decide (200 < s.length) = false := decide_eq_false hs
  have hp1 := fun w1 => pick_at n 4 4 w1 rfl (by decide) (by decide)
  have hl1 := pickN_lt n 4 (by decide)
  generalize pickN n 4 = k at *
  have hrep := fun w => Tryd.strings_Repeat { data := #[32] } (k + 1) w (by omega) (by show 1 * (k + 1) ≤ _; omega)
  rw [show ({ data := #[32] } : ByteArray).data.toList = [32] from rfl, rep_one] at hrep
  have hpa := fun w => Parse2_any s w (by omega)
  have hml := Ex.more_length k s
  have hra : ∀ w : World, w.ShapedOpen Tryd.prog → Calls Tryd.prog 29 #[.string (bstr s), .string { data := #[32] }, .string (bstr (List.replicate (k + 1) 32))] w fun e w' => e = .returned (.string (bstr (Ex.more k s))) ∧ Below w.heap.size w w' := by
    intro w h
    refine (Tryd.strings_ReplaceAll_shaped (bstr s) { data := #[32] } (bstr (List.replicate (k + 1) 32)) w h (by rw [bstr_size]; omega) (by decide) ?_).mono ?_
    · rw [bstr_size, bstr_size, List.length_replicate]
      have := count_le s
      have h2 : Lib.countB (bstr s) { data := #[32] } * (k + 1) ≤ 200 * 4 := Nat.mul_le_mul (by have e : ({ data := #[32] } : ByteArray) = bstr [32] := rfl; rw [e]; omega) (by omega)
      omega
    · rintro e w' ⟨rfl, hb⟩
      refine ⟨?_, hb⟩
      rw [show (bstr s).data.toList = s from rfl, show ({ data := #[32] } : ByteArray).data.toList = [32] from rfl, show (bstr (List.replicate (k + 1) 32)).data.toList = List.replicate (k + 1) 32 from rfl, Ex.replaceAll_one]
      rfl
  have hpb := fun w => Parse2_any (List.replicate (k + 1) 32 ++ Ex.more k s ++ List.replicate (k + 1) 32) w (by
    simp only [List.length_append, List.length_replicate]
    have : (k + 1) * s.length ≤ 4 * 200 := Nat.mul_le_mul (by omega) (by omega)
    omega)
  rw [Ex.words_more] at hpb
  have hsh1 := cmd_short 200 (Ex.words s) (fun x hx => by have := (Ex.wgo_has s [] (by simp) x hx).2.2; simp at this; omega)
  have hre : (List.replicate (k + 1) (32 : UInt8)).length ≤ 4 := by rw [List.length_replicate]; omega
  have hml2 : (Ex.more k s).length ≤ 800 := by
    have : (k + 1) * s.length ≤ 4 * 200 := Nat.mul_le_mul (by omega) (by omega)
    omega
  have hrl : (⟨(List.replicate (k + 1) (32 : UInt8)).toArray⟩ : ByteArray) = bstr (List.replicate (k + 1) 32) := rfl
  rw [hrl] at hrep
  generalize List.replicate (k + 1) (32 : UInt8) = RB at *
  generalize Ex.more k s = MS at *
  simp only [List.append_assoc] at hpb
  generalize Ex.cmdOf (Ex.words s) = o at *
  generalize hc : o.getD noCmd = c at *
  clear hc hrl
  have htl : ∃ tv : Int, ∀ w, ErrType w → Calls Tryd.prog 14 #[errOf o] w fun e w' => e = .returned (.int .i64 tv) ∧ Below w.heap.size w w' := by
    cases o with
    | none => exact ⟨3, fun w h => Tell_errno 3 w h⟩
    | some c => exact ⟨0, fun w h => (Tell_nil w).mono fun e w' ⟨h1, h2⟩ => ⟨h1, by rw [h2]; exact Below.refl _ _⟩⟩
  obtain ⟨tv, htl⟩ := htl
  have HTL := Lib.hid htl
  clear htl
  generalize errOf o = ev at *
  have HP1 := Lib.hid hp1; have HRE := Lib.hid hrep; have HPA := Lib.hid hpa; have HRA := Lib.hid hra; have HPB := Lib.hid hpb; have HS1 := Lib.hid hsh1
  have hk4 : k + 1 ≤ 4 := by omega
  clear hp1 hrep hpa hra hpb hsh1 hml hl1 hs
  obtain ⟨q, hq⟩ : ∃ q, q = k + 1 := ⟨_, rfl⟩
  rw [← hq] at HRE hk4
  have hki2 : (1 : Int) + (k : Int) = (q : Int) := by omega
  clear hq
  go_enter Tryd.func8, Tryd.ntmps8
  go_wp2_with fail
  refine (HLI.out _).mono ?_
  rintro e w1 ⟨rfl, hb1⟩
  have HB1 := Lib.hid hb1; clear hb1
  go_wp2_with fail
  refine (HP1.out _).mono ?_
  rintro e w2 ⟨rfl, rfl⟩
  go_wp2_with fail
  with_reducible refine (HRE.out _).mono ?_
  rintro e w2 ⟨rfl, hb2⟩
  have HB2 := Lib.hid (HB1.out.trans (hb2.mono HB1.out.size)); clear hb2
  go_wp2_with fail
  with_reducible refine (HPA.out _).mono ?_
  rintro e w3 ⟨⟨aN, cN, aB, cB, aP, cP, rfl, h1⟩, hb3⟩
  have hbe := (Below.refl w3.heap.size w3).alloc (Nat.le_refl _) (.cells #[.string (bstr c.word), .slice aN c.n.length cN, .slice aB c.b.length cB, .slice aP c.p.length cP] 58)
  have hr1 := RowAt.new w3 58 #[.string (bstr c.word), .slice aN c.n.length cN, .slice aB c.b.length cB, .slice aP c.p.length cP]
  have HB3 := Lib.hid ((HB2.out.trans (hb3.mono HB2.out.size)).trans (hbe.mono (Nat.le_trans HB2.out.size hb3.size)))
  have H1 := Lib.hid (h1.below hbe); have HR1 := Lib.hid hr1
  clear h1 hb3 hbe hr1
  go_wp2_with fail
  obtain ⟨b1, hb1⟩ : ∃ b1, b1 = w3.heap.size := ⟨_, rfl⟩
  rw [← hb1] at HR1 ⊢
  clear hb1
  generalize w3.alloc (.cells #[.string (bstr c.word), .slice aN c.n.length cN, .slice aB c.b.length cB, .slice aP c.p.length cP] 58) = w4 at *
  with_reducible refine (HRA.out _ (shaped_up HSH.out HB3.out)).mono ?_
  rintro e w5 ⟨rfl, hb5⟩
  have HB5 := Lib.hid (HB3.out.trans (hb5.mono HB3.out.size))
  have H15 := Lib.hid (H1.out.below hb5); have HR15 := Lib.hid (HR1.out.below hb5 HR1.out.lt)
  clear hb5
  go_wp2_with fail
  with_reducible refine (HPB.out _).mono ?_
  rintro e w6 ⟨⟨bN, dN, bB, dB, bP, dP, rfl, h2⟩, hb6⟩
  have hbe := (Below.refl w6.heap.size w6).alloc (Nat.le_refl _) (.cells #[.string (bstr c.word), .slice bN c.n.length dN, .slice bB c.b.length dB, .slice bP c.p.length dP] 58)
  have hr2 := RowAt.new w6 58 #[.string (bstr c.word), .slice bN c.n.length dN, .slice bB c.b.length dB, .slice bP c.p.length dP]
  have HB6 := Lib.hid ((HB5.out.trans (hb6.mono HB5.out.size)).trans (hbe.mono (Nat.le_trans HB5.out.size hb6.size)))
  have H16 := Lib.hid ((H15.out.below hb6).below hbe); have HR16 := Lib.hid ((HR15.out.below hb6 HR15.out.lt).below hbe (Nat.lt_of_lt_of_le HR15.out.lt hb6.size))
  have H2 := Lib.hid (h2.below hbe); have HR2 := Lib.hid hr2
  clear h2 hb6 hbe hr2
  go_wp2_with fail
  obtain ⟨b2, hb2⟩ : ∃ b2, b2 = w6.heap.size := ⟨_, rfl⟩
  rw [← hb2] at HR2 ⊢
  clear hb2
  generalize w6.alloc (.cells #[.string (bstr c.word), .slice bN c.n.length dN, .slice bB c.b.length dB, .slice bP c.p.length dP] 58) = w7 at *
  with_reducible refine (HTL.out _ (HG.out.below HB6.out HG.out.lt)).mono ?_
  rintro e w8 ⟨rfl, hb8⟩
  have HB8 := Lib.hid (HB6.out.trans (hb8.mono HB6.out.size))
  have H18 := Lib.hid (H16.out.below hb8); have HR18 := Lib.hid (HR16.out.below hb8 HR16.out.lt)
  have H28 := Lib.hid (H2.out.below hb8); have HR28 := Lib.hid (HR2.out.below hb8 HR2.out.lt)
  clear hb8
  go_wp2_with fail
  with_reducible refine (HTL.out _ (HG.out.below HB8.out HG.out.lt)).mono ?_
  rintro e w9 ⟨rfl, hb9⟩
  have HB9 := Lib.hid (HB8.out.trans (hb9.mono HB8.out.size))
  have H19 := Lib.hid (H18.out.below hb9); have HR19 := Lib.hid (HR18.out.below hb9 HR18.out.lt)
  have H29 := Lib.hid (H28.out.below hb9); have HR29 := Lib.hid (HR28.out.below hb9 HR28.out.lt)
  clear hb9
  have c0 := HR19.out.cell0 0 (by simp); have c1 := HR19.out.cell0 1 (by simp); have c2 := HR19.out.cell0 2 (by simp); have c3 := HR19.out.cell0 3 (by simp)
  have e0 := HR29.out.cell0 0 (by simp); have e1 := HR29.out.cell0 1 (by simp); have e2 := HR29.out.cell0 2 (by simp); have e3 := HR29.out.cell0 3 (by simp)
  simp only [Array.toList, List.getElem_cons_succ, List.getElem_cons_zero] at c0 c1 c2 c3 e0 e1 e2 e3
  have htt : (tv == tv) = true := by simp
  go_wp2_with fail
  refine (same_any c aN cN aB cB aP cP bN dN bB dB bP dP _ _ w9 (by have := HS1.out.1; omega) (by have := HS1.out.2.1; omega) (by have := HS1.out.2.2; omega) H19.out H29.out).mono ?_
  rintro e w10 ⟨rfl, hb10⟩
  go_wp2_with fail
  go_ret
  exact ⟨rfl, HB9.out.trans (hb10.mono HB9.out.size)⟩
theorem ExBlanks_walk (s : ByteArray) (n : Int) (W : World) (hg : ErrType W) (hsh : W.ShapedOpen Tryd.prog) :
    Calls Tryd.prog 8 #[.string s, .int .i64 n] W fun e w' => e = .returned (.bool true) ∧ Below W.heap.size W w' := by
  rw [eq_bstr s]
  exact ExBlanks_in s.data.toList n W hg hsh
end Go.Proofs.YtnmbakibiaedhaaDoor
