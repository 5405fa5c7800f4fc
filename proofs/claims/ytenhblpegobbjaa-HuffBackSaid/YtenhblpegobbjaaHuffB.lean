/- The groups of huff.Lens in memory, and how they are compared. -/
import Derived.Test.YtenhblpegobbjaaHuffA
import Derived.Test.YtenhblpegobbjaaSortRow
import Derived.Test.YtenhblpegobbjaaSortGrp
namespace Go.Proofs.Ytenhblpegobbjaa
open Go.RowKit
set_option linter.unusedVariables false
set_option linter.unusedSimpArgs false
open Huff
/-- a group, and where its things lie -/
structure GV where
  n : Nat
  made : Nat
  of : List Nat
  v : Value
  hn : n ≤ 1125899906842624
  hm : made ≤ 1000
  h1 : v.oneCell' = true
instance : Inhabited GV := ⟨⟨0, 0, [], .int .i64 0, by decide, by decide, rfl⟩⟩
def GV.grp (x : GV) : Grp := ⟨x.n, x.made, x.of⟩
def gvEnc (x : GV) : List Value := [.int .i64 (x.n : Nat), .int .i64 (x.made : Nat), x.v]
theorem gvEnc_len (x : GV) : (gvEnc x).length = 3 := rfl
theorem gvEnc_one (x : GV) : ∀ v ∈ gvEnc x, v.oneCell' = true := by
  intro v hv
  simp [gvEnc] at hv
  rcases hv with rfl | rfl | rfl
  · rfl
  · rfl
  · exact x.h1
def cmpGv (x y : GV) : Int := if x.n = y.n then (x.made : Int) - y.made else (x.n : Int) - y.n
theorem ltGv (x y : GV) : Go.Proofs.ltOf cmpGv x y = decide (x.n < y.n ∨ x.n = y.n ∧ x.made < y.made) := by
  unfold Go.Proofs.ltOf cmpGv
  rw [decide_eq_decide]
  by_cases h : x.n = y.n
  · rw [if_pos h]; omega
  · rw [if_neg h]; omega
theorem ltGv_le (x y : GV) (h : Go.Proofs.ltOf cmpGv y x = false) : x.grp.le y.grp = true := by
  rw [ltGv, decide_eq_false_iff_not] at h
  rw [Grp.le_iff]
  show x.n < y.n ∨ x.n = y.n ∧ x.made ≤ y.made
  omega
theorem swoGv : Go.Sort.SWO (Go.Proofs.ltOf cmpGv) where
  irrefl x := by rw [ltGv]; simp
  trans x y z h1 h2 := by rw [ltGv, decide_eq_true_eq] at *; omega
  ntrans x y z h1 h2 := by rw [ltGv, decide_eq_false_iff_not] at *; omega
set_option maxRecDepth 100000 in
set_option maxHeartbeats 1000000 in
theorem closure_gv (x y : GV) (W : World) : Calls Try.prog 77 #[.agg #[.int .i64 (x.n : Nat), .int .i64 (x.made : Nat), x.v], .agg #[.int .i64 (y.n : Nat), .int .i64 (y.made : Nat), y.v]] W fun e w' => e = .returned (.int .i64 (cmpGv x y)) ∧ ∃ q os', w' = Go.Sort.grow (W.drewN q) os' := by
  obtain ⟨xn, xm, xo, xv, hx1, hx2, hx3⟩ := x
  obtain ⟨yn, ym, yo, yv, hy1, hy2, hy3⟩ := y
  unfold cmpGv
  simp only []
  have hfin : ∀ o1 o2, ∃ q os', (W.alloc o1).alloc o2 = Go.Sort.grow (W.drewN q) os' := fun o1 o2 => ⟨0, _, by rw [Go.Sort.alloc_eq_grow, Go.Sort.alloc_eq_grow, Go.Sort.grow_grow]; rfl⟩
  have HF := Lib.hid hfin; clear hfin
  go_enter Try.func77, Try.ntmps77
  by_cases h1 : xn = yn
  · have d1 : ((xn : Int) != (yn : Int)) = false := by simp [h1]
    rw [if_pos h1]
    have H1 := Lib.hid h1; clear h1
    go_wp2_with fail
    go_ret
    exact ⟨rfl, HF.out _ _⟩
  · have d1 : ((xn : Int) != (yn : Int)) = true := by rw [bne_iff_ne]; omega
    rw [if_neg h1]
    have H1 := Lib.hid h1; clear h1
    go_wp2_with fail
    go_ret
    exact ⟨rfl, HF.out _ _⟩
/-- the groups of a list, one behind the other -/
def gvs (L : List GV) : List Value := L.flatMap gvEnc
set_option maxRecDepth 100000 in
theorem sortGv (B g off n cap : Nat) (d : List GV) (w : World) (h : OwnsAt w B 121 3 g off n cap (gvs d)) (hl : d.length = n) (hn : n ≤ 100000) :
    Calls Try.prog 76 #[.slice (some ⟨g, off, none⟩) n cap, .func (.func 77) #[] #[]] w fun e w' => e = .returned (.tuple #[]) ∧ ∃ d' : List GV, d'.Perm d ∧ (d'.map GV.grp).Pairwise (fun a b => a.le b = true) ∧ OwnsAt w' B 121 3 g off n cap (gvs d') ∧ w.grownBy w' (some g) := by
  subst hl
  have eg : ∀ args w, (callFunc 77 args).run Try.prog w = .ok (.enter 77 args) w := enters_of Try.func77 (by kernel_rfl) rfl
  have hcl : CmpLays Try.prog 77 #[] gvEnc 3 cmpGv g off d.toArray.size w := fun _ _ _ _ x y => closure_gv x y _
  have hcon := AnyQ.slices_SortFunc Try.sortGrp 3 Try.isAgg121 Try.sizeOf121 gvEnc gvEnc_len gvEnc_one cmpGv swoGv 77 #[] g off cap d.toArray w eg hcl (holdsK_of gvEnc_len (by decide) h) h.lt (by simp; omega)
  clear eg hcl
  change Calls Try.prog 76 _ _ _ at hcon
  rw [show d.toArray.size = d.length from by simp] at hcon
  refine hcon.mono ?_
  rintro e w' ⟨rfl, d', m, os, hp, hs, rfl⟩
  have hsize : d'.toList.length = d.length := by have := hp.1; simpa using this
  have hr := ownsAt_sort (m := m) (os := os) gvEnc_len (by decide) h hsize
  rw [Array.toArray_toList] at hr
  have hperm := hp.2.2
  rw [Array.extract_eq_self_of_le (by rw [hp.1]; simp), Array.extract_eq_self_of_le (by simp)] at hperm
  refine ⟨rfl, d'.toList, hperm, ?_, hr.1, hr.2⟩
  rw [List.pairwise_map, List.pairwise_iff_getElem]
  intro i j hi hj hij
  have := hs i j (Nat.zero_le _) hij (by simpa using (hsize ▸ hj))
  rw [getElem!_pos d' i (by simpa using hi), getElem!_pos d' j (by simpa using hj)] at this
  simp only [Array.getElem_toList]
  exact ltGv_le _ _ this
end Go.Proofs.Ytenhblpegobbjaa
