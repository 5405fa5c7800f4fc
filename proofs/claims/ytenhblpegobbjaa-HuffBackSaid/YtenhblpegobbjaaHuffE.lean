/- The fact of signs for bytes (coded), and the law HuffApart. -/
import Derived.Test.YtenhblpegobbjaaHuffD
import Derived.Test.YtenhblpegobbjaaSlEqual
import Derived.Test.YtenhblpegobbjaaPick
namespace Go.Proofs.Ytenhblpegobbjaa
open Go.RowKit
set_option linter.unusedVariables false
set_option linter.unusedSimpArgs false
open Huff
theorem rowN_ivals {w : World} {g : Nat} {L : List Int} {l : List Nat} (h : RowAt w g 0 3 (nvals .i64 l)) (hl : l.map (fun n : Nat => (n : Int)) = L) : ReadsI w (some ⟨g, 0, none⟩) L := by
  rw [nvals_ivals, hl] at h
  exact h.readsI
set_option maxRecDepth 100000 in
theorem coded_any (w : World) : Calls Try.prog 34 #[] w fun e w' => e = .returned (.bool true) ∧ Below w.heap.size w w' := by
  have hfits : Fits [2, 1, 3, 3] := by
    refine ⟨?_, by decide⟩
    intro x hx
    simp only [List.mem_cons, List.not_mem_nil, or_false] at hx
    rcases hx with rfl | rfl | rfl | rfl <;> decide
  have hcs : codes [2, 1, 3, 3] = [2, 0, 6, 7] := by decide
  have hls : (lens [5, 1, 0, 2, 9]).map (fun n : Nat => (n : Int)) = [2, 3, 0, 3, 1] := by decide
  have HF := Lib.hid hfits; have HC := Lib.hid hcs; have HLS := Lib.hid hls
  clear hfits hcs hls
  go_enter Try.func34, Try.ntmps34
  go_wp2_with fail
  refine (Lens_ok _ 5 5 [5, 1, 0, 2, 9] [5, 1, 0, 2, 9] _ (RowAt.new2 w w.heap.size rfl 3 (ivals [5, 1, 0, 2, 9])).readsI.rd rfl (by decide) rfl (by intro x hx; simp only [List.mem_cons, List.not_mem_nil, or_false] at hx; rcases hx with rfl | rfl | rfl | rfl | rfl <;> decide)).mono ?_
  rintro e w1 ⟨g1, rfl, hr1, hg1, hb1⟩
  have hB1 := ((Below.refl w.heap.size w).alloc (Nat.le_refl _) (.cells #[.int .i64 5, .int .i64 1, .int .i64 0, .int .i64 2, .int .i64 9] 3)).trans (hb1.mono (by simp))
  have HR1 := Lib.hid hr1; have HB1 := Lib.hid hB1
  clear hr1 hg1 hb1 hB1
  go_wp2_with fail
  refine (Signs_ok _ 4 4 [2, 1, 3, 3] _ (RowAt.new2 w1 w1.heap.size rfl 3 (ivals [2, 1, 3, 3])).readsI.rd rfl (by decide) HF.out).mono ?_
  rintro e w2 ⟨g2, rfl, hr2, hg2, hb2⟩
  have hBB := ((Below.refl w1.heap.size w1).alloc (Nat.le_refl _) (.cells #[.int .i64 2, .int .i64 1, .int .i64 3, .int .i64 3] 3)).trans (hb2.mono (by simp))
  have HR1b := Lib.hid (HR1.out.of_heap (hBB.block g1 HR1.out.lt))
  have HR2 := Lib.hid hr2
  have HB2 := Lib.hid (HB1.out.trans (hBB.mono HB1.out.size))
  clear hr2 hg2 hb2 hBB HR1 HB1
  go_wp2_with fail
  refine (Equal_yes _ _ _ _ _ _ [2, 3, 0, 3, 1] _ rfl rfl (by decide) (rowN_ivals (HR1b.out.alloc _) HLS.out) (RowAt.new' _ _ (by simp) 3 #[.int .i64 2, .int .i64 3, .int .i64 0, .int .i64 3, .int .i64 1]).readsI).mono ?_
  rintro e w9 ⟨rfl, k3, rfl⟩
  have HB3 := Lib.hid (bdrewN (HB2.out.alloc HB2.out.size (.cells #[.int .i64 2, .int .i64 3, .int .i64 0, .int .i64 3, .int .i64 1] 3)) k3)
  have HR3 : Hid (RowAt ((w2.alloc (.cells #[.int .i64 2, .int .i64 3, .int .i64 0, .int .i64 3, .int .i64 1] 3)).drewN k3) g2 0 3 (ivals (codes [2, 1, 3, 3]))) := Lib.hid (HR2.out.alloc _)
  clear HB2 HR2 HR1b
  generalize (w2.alloc (.cells #[.int .i64 2, .int .i64 3, .int .i64 0, .int .i64 3, .int .i64 1] 3)).drewN k3 = w3 at *
  go_wp2_with fail
  refine (Equal_yes _ _ _ _ _ _ [2, 0, 6, 7] _ rfl rfl (by decide) (by have := (HR3.out.alloc (.cells #[.int .i64 2, .int .i64 0, .int .i64 6, .int .i64 7] 3)).readsI; rw [HC.out] at this; exact this) (RowAt.new' _ _ (by simp) 3 #[.int .i64 2, .int .i64 0, .int .i64 6, .int .i64 7]).readsI).mono ?_
  rintro e w9 ⟨rfl, k4, rfl⟩
  go_wp2_with fail
  go_ret
  exact ⟨rfl, bdrewN (HB3.out.alloc HB3.out.size _) _⟩
theorem getD_of {L : List Int} {i : Nat} (h : i < L.length) : L.getD i 0 ∈ L := mem_getD L i h
set_option maxRecDepth 100000 in
set_option maxHeartbeats 2000000 in
theorem HuffApart_walk (w : World) (a : Option Addr) (n c : Nat) (zs : List Int) (x_ y_ : Int) (hz : IsInts .i64 w a n c zs) (h1 : -9223372036854775808 ≤ x_) (h2 : x_ ≤ 9223372036854775807) (h3 : -9223372036854775808 ≤ y_) (h4 : y_ ≤ 9223372036854775807) :
    Calls Try.prog 7 #[.slice a n c, .int .i64 x_, .int .i64 y_] w fun e w' => e = .returned (.bool true) ∧ Below w.heap.size w w' := by
  obtain ⟨L, hL⟩ : ∃ L, L = zs.take n := ⟨_, rfl⟩
  have hr := hz.rd
  have hl := hz.take_len
  rw [← hL] at hr hl
  have HR := Lib.hid hr; have HL := Lib.hid hl
  clear hr hl hL hz
  go_enter Try.func7, Try.ntmps7
  go_wp2_with fail
  refine (coded_any _).mono ?_
  rintro e w1 ⟨rfl, hb1⟩
  have HB1 := Lib.hid hb1
  have HR1 := Lib.hid (HR.out.below hb1 (Nat.le_refl _))
  clear hb1 HR
  by_cases hn0 : n = 0
  · have e1 : ((n : Int) == 0) = true := by rw [beq_iff_eq]; omega
    go_wp2_with fail
    go_ret
    exact ⟨rfl, HB1.out⟩
  · have e1 : ((n : Int) == 0) = false := by rw [beq_eq_false_iff_ne]; omega
    by_cases hn2 : 256 < n
    · have e2 : decide ((256 : Int) < (n : Int)) = true := by rw [decide_eq_true_eq]; omega
      go_wp2_with fail
      go_ret
      exact ⟨rfl, HB1.out⟩
    · have e2 : decide ((256 : Int) < (n : Int)) = false := by rw [decide_eq_false_iff_not]; omega
      by_cases hf : Fits L
      · have HF := Lib.hid hf; clear hf
        go_wp2_with fail
        refine (Signs_ok a n c L _ HR1.out HL.out (by omega) HF.out).mono ?_
        rintro e w2 ⟨g, rfl, hrow, hg, hb2⟩
        have HR2 := Lib.hid (HR1.out.below hb2 (Nat.le_refl _))
        have HB2 := Lib.hid (HB1.out.trans (hb2.mono HB1.out.size))
        have HROW := Lib.hid hrow
        clear hrow hg hb2 HR1 HB1
        have e3 : ((n : Int) != (n : Int)) = false := by simp
        obtain ⟨X, hX⟩ : ∃ X, X = pickN x_ n := ⟨_, rfl⟩
        obtain ⟨Y, hY⟩ : ∃ Y, Y = pickN y_ n := ⟨_, rfl⟩
        have hXn := pickN_lt x_ n (by omega)
        have hYn := pickN_lt y_ n (by omega)
        have hp1 := fun w => pick_at x_ (n : Int) n w rfl (by omega) (by omega)
        have hp2 := fun w => pick_at y_ (n : Int) n w rfl (by omega) (by omega)
        rw [← hX] at hXn hp1
        rw [← hY] at hYn hp2
        have HP1 := Lib.hid hp1; have HP2 := Lib.hid hp2
        clear hX hY hp1 hp2
        obtain ⟨x, rfl, _, hcx⟩ := HR2.out X (by rw [HL.out]; exact hXn)
        obtain ⟨x', hx', _, hcy⟩ := HR2.out Y (by rw [HL.out]; exact hYn)
        cases hx'
        have hmx := HF.out.1 _ (getD_of (by rw [HL.out]; exact hXn))
        have hmy := HF.out.1 _ (getD_of (by rw [HL.out]; exact hYn))
        have hgx := HROW.out.int0 X (by rw [codes_length, HL.out]; exact hXn)
        have hgy := HROW.out.int0 Y (by rw [codes_length, HL.out]; exact hYn)
        rw [codes_get L X (by rw [HL.out]; exact hXn)] at hgx
        rw [codes_get L Y (by rw [HL.out]; exact hYn)] at hgy
        have hap := apart L X Y (by rw [HL.out]; exact hXn) (by rw [HL.out]; exact hYn)
        have hcb := code_bound L HF.out.2 X (by rw [HL.out]; exact hXn)
        generalize L.getD X 0 = A at *
        generalize L.getD Y 0 = B at *
        generalize code L X = p at *
        generalize code L Y = q at *
        have HAP := Lib.hid hap; have HCB := Lib.hid hcb
        clear hap hcb
        have hXI : (X : Int) < (n : Int) := by omega
        have hYI : (Y : Int) < (n : Int) := by omega
        have hX0 : (0 : Int) ≤ (X : Int) := by omega
        have hY0 : (0 : Int) ≤ (Y : Int) := by omega
        have HC1 := Lib.hid hcx; have HC2 := Lib.hid hcy; have HG1 := Lib.hid hgx; have HG2 := Lib.hid hgy
        clear hgx hgy
        go_wp2_with fail
        refine (HP1.out _).mono ?_
        rintro e w3 ⟨rfl, rfl⟩
        go_wp2_with fail
        refine (HP2.out _).mono ?_
        rintro e w3 ⟨rfl, rfl⟩
        go_wp2_with fail
        go_quiet (fail)
        have HB3 := Lib.hid (bdrewN HB2.out nq)
        have HG1b : Hid ((w2.drewN nq).cell? ⟨g, X, none⟩ = some (.int .i64 (p : Nat))) := HG1
        have HG2b : Hid ((w2.drewN nq).cell? ⟨g, Y, none⟩ = some (.int .i64 (q : Nat))) := HG2
        clear hcx hcy HC1 HC2 HG1 HG2 HROW HR2 HB2
        generalize w2.drewN nq = w3 at *
        by_cases hxy : X = Y
        · have f1 : ((X : Int) == (Y : Int)) = true := by rw [beq_iff_eq]; omega
          have HXY := Lib.hid hxy; clear hxy
          go_wp2_with fail
          go_ret
          exact ⟨rfl, HB3.out⟩
        · have f1 : ((X : Int) == (Y : Int)) = false := by rw [beq_eq_false_iff_ne]; omega
          by_cases hA0 : A = 0
          · have f2 : (A == 0) = true := by rw [beq_iff_eq]; exact hA0
            have HXY := Lib.hid hA0; clear hA0
            go_wp2_with fail
            go_ret
            exact ⟨rfl, HB3.out⟩
          · have f2 : (A == 0) = false := by rw [beq_eq_false_iff_ne]; exact hA0
            by_cases hBA : B < A
            · have f3 : decide (B < A) = true := decide_eq_true hBA
              go_wp2_with fail
              go_ret
              exact ⟨rfl, HB3.out⟩
            · have f3 : decide (B < A) = false := decide_eq_false hBA
              have hg1 := HG1b.out; have hg2 := HG2b.out
              have hap := HAP.out hxy (by omega) (by omega)
              have hcb := HCB.out (by omega) hmx.2
              have hp24 : p < 16777216 := Nat.lt_of_lt_of_le hcb (Nat.pow_le_pow_right (by decide) (by omega) : 2 ^ A.toNat ≤ 2 ^ 24)
              have k1 : decide ((0 : Int) ≤ (p : Int)) = true := by rw [decide_eq_true_eq]; omega
              have s1 : (p : Int) / 2 ^ A.toNat = 0 := by
                have : ((p / 2 ^ A.toNat : Nat) : Int) = 0 := by rw [Nat.div_eq_of_lt hcb]; rfl
                rw [← this]; simp
              have t2 : ((q : Int) / 2 ^ (B - A).toNat != (p : Int)) = true := by
                rw [bne_iff_ne]
                intro hh
                apply hap
                have : ((q / 2 ^ (B - A).toNat : Nat) : Int) = (p : Int) := by rw [← hh]; simp
                omega
              have t1 : IntKind.i64.wrap (B - A) = B - A := by rw [IntKind.wrap_i64]; omega
              have t0 : 0 ≤ B - A := by omega
              have t3 : B - A ≤ 24 := by omega
              have HAP2 := Lib.hid hap; have HCB2 := Lib.hid hcb
              clear hap hcb
              go_wp2_with fail
              go_quiet (fail)
              go_wp2_with fail
              go_ret
              exact ⟨rfl, bdrewN HB3.out _⟩
      · have HF := Lib.hid hf; clear hf
        go_wp2_with fail
        refine (Signs_bad a n c L _ HR1.out HL.out (by omega) HF.out).mono ?_
        rintro e w2 ⟨k, rfl, hb2⟩
        have HB2 := Lib.hid (HB1.out.trans (hb2.mono HB1.out.size))
        clear hb2 HB1
        go_wp2_with fail
        go_ret
        exact ⟨rfl, HB2.out⟩
end Go.Proofs.Ytenhblpegobbjaa
