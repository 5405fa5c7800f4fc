/- suffix.Sort: the closures that tell an end's key and compare two ends. -/
import Derived.Test.YtenhblpegobbjaaPlainSuffix2
import Derived.Test.YtenhblpegobbjaaGrew
import Derived.Test.YtenhblpegobbjaaRdI
import Derived.Test.YtenhblpegobbjaaInfo
import Derived.Test.YtenhblpegobbjaaChecked
import Derived.Deep.RegionHeld3
import Derived.BigRegion
namespace Go.Proofs.Ytenhblpegobbjaa
open Go.RowKit
set_option linter.unusedVariables false
set_option linter.unusedSimpArgs false
open Suf
/-- what the key's closure reads -/
structure KeyAt (V : World) (kb nb cb rb : Nat) (k : Nat) (s : List UInt8) (R : List Nat) : Prop where
  rk : RowAt V kb 0 3 [.int .i64 (k : Nat)]
  rn : RowAt V nb 0 3 [.int .i64 (s.length : Nat)]
  rc : RowAt V cb 0 34 [.slice (some ⟨rb, 0, none⟩) s.length s.length]
  rr : RowAt V rb 0 3 (nvals .i64 R)
  len : R.length = s.length
  small : ∀ i, R.getD i 0 ≤ 100000
  hk : k ≤ 100000
  hs : s.length ≤ 4000
theorem KeyAt.grew {V W : World} {kb nb cb rb k : Nat} {s : List UInt8} {R : List Nat} (h : KeyAt V kb nb cb rb k s R) (hg : Grew V W) : KeyAt W kb nb cb rb k s R :=
  ⟨hg.row h.rk, hg.row h.rn, hg.row h.rc, hg.row h.rr, h.len, h.small, h.hk, h.hs⟩
theorem alloc_set2 (V : World) (x y a b : Value) (T : TypeId) : ((V.alloc (.cells #[x, y] T)).setCell ⟨V.heap.size, 0, none⟩ a).setCell ⟨V.heap.size, 1, none⟩ b = V.alloc (.cells #[a, b] T) := by
  rw [World.setCell_alloc_at _ _ _ _ _ rfl, World.setCell_alloc_at _ _ _ _ _ rfl]; rfl
theorem zeroPair (w : World) : (zeroValue 126).run Try.prog w = .ok (.agg #[.int .i64 0, .int .i64 0]) w := by kernel_rfl
set_option maxRecDepth 100000 in
set_option maxHeartbeats 1000000 in
theorem key_any (V : World) (kb nb cb rb k : Nat) (s : List UInt8) (R : List Nat) (h : KeyAt V kb nb cb rb k s R) (i : Nat) (hi : i < s.length) :
    Calls Try.prog 86 #[.int .i64 (i : Nat), .pointer (some ⟨kb, 0, none⟩), .pointer (some ⟨nb, 0, none⟩), .pointer (some ⟨cb, 0, none⟩)] V fun e w' => e = .returned (.agg #[.int .i64 (R.getD i 0 : Nat), .int .i64 (key2 s k R i : Nat)]) ∧ ∃ n, w' = (V.alloc (.cells #[.int .i64 (R.getD i 0 : Nat), .int .i64 (key2 s k R i : Nat)] 126)).drewN n := by
  have hz := zeroPair V
  have hk := h.hk; have hs := h.hs
  have HZ := Lib.hid hz; clear hz
  obtain ⟨V1, hV1⟩ : ∃ V1, V1 = V.alloc (.cells #[.int .i64 0, .int .i64 0] 126) := ⟨_, rfl⟩
  have hg1 : Grew V V1 := by rw [hV1]; exact (Grew.refl V).alloc _
  have h1 := h.grew hg1
  have ck := h1.rk.cell0 0 (by simp)
  have cn := h1.rn.cell0 0 (by simp)
  have cc := h1.rc.cell0 0 (by simp)
  simp only [List.getElem_cons_zero] at ck cn cc
  have ci := h1.rr.num0 i (by rw [h.len]; exact hi)
  have hri := h.small i
  have hsum : IntKind.i64.wrap ((i : Int) + (k : Int)) = (i : Int) + (k : Int) := by rw [IntKind.wrap_i64]; omega
  have hsum2 : wrap64 ((i : Int) + (k : Int)) = (i : Int) + (k : Int) := IntWalk.wrap64_in _ ⟨by omega, by omega⟩
  have hnew : RowAt V1 V.heap.size 0 126 [.int .i64 0, .int .i64 0] := by rw [hV1]; exact RowAt.new V _ _
  have hf0 := hnew.frozen0 0 (by simp); have hf1 := hnew.frozen0 1 (by simp)
  have hc0 := hnew.cell0 0 (by simp); have hc1 := hnew.cell0 1 (by simp)
  simp only [List.getElem_cons_zero, List.getElem_cons_succ] at hc0 hc1
  have HG1 := Lib.hid hg1; have HN := Lib.hid hnew; have H1 := Lib.hid h1
  clear hnew hg1 h1 h HZ
  subst hV1
  by_cases hik : i + k < s.length
  · have d1 : decide ((i : Int) + (k : Int) < (s.length : Int)) = true := decide_eq_true (by omega)
    have d1n : decide (i + k < s.length) = true := decide_eq_true (by omega)
    have hnn : 0 ≤ (i : Int) + (k : Int) := by omega
    have hlt2 : (i : Int) + (k : Int) < (s.length : Int) := by omega
    have htn : ((i : Int) + (k : Int)).toNat = i + k := by omega
    have ci2 := H1.out.rr.num0 (i + k) (by rw [H1.out.len]; exact hik)
    have hri2 := H1.out.small (i + k)
    go_enter Try.func86, Try.ntmps86
    have hk2 : key2 s k R i = R.getD (i + k) 0 + 1 := if_pos hik
    rw [hk2]
    generalize R.getD (i + k) 0 = b at *
    generalize R.getD i 0 = a at *
    have hb1 : IntKind.i64.wrap ((b : Int) + 1) = ((b + 1 : Nat) : Int) := by rw [IntKind.wrap_i64]; omega
    clear hk2 hik hsum2
    go_wp2_with fail
    generalize hv1 : V.alloc (Obj.cells #[.int .i64 0, .int .i64 0] 126) = V1 at *
    have hbs : V.heap.size = V.heap.size := rfl
    generalize hBB : V.heap.size = B at *
    go_still_tail 12, (by kernel_rfl)
    change wpList _ _ _ _ _ (World.drew _)
    go_wp2_with fail
    have hn2 := (HN.out.set0 0 (by simp) (.int .i64 (a : Nat))).set0 1 (by simp) (.int .i64 ((b : Int) + 1))
    have e0 := hn2.cell0 0 (by simp); have e1 := hn2.cell0 1 (by simp)
    simp only [List.set_cons_zero, List.set_cons_succ, List.getElem_cons_zero, List.getElem_cons_succ] at e0 e1
    exact bodyPost_ret (v := .agg #[.int .i64 (a : Nat), .int .i64 ((b : Int) + 1)]) (by simp [results, Try.results86, go_sem, e0, e1]) rfl ⟨rfl, 1, by rw [← hv1, ← hBB, alloc_set2]; rfl⟩
  · have d1 : decide ((i : Int) + (k : Int) < (s.length : Int)) = false := decide_eq_false (by omega)
    have d1n : decide (i + k < s.length) = false := decide_eq_false (by omega)
    go_enter Try.func86, Try.ntmps86
    have hk2 : key2 s k R i = 0 := if_neg hik
    rw [hk2]
    generalize R.getD i 0 = a at *
    clear hk2 hik
    go_wp2_with fail
    have hn2 := RowAt.new V 126 #[.int .i64 (a : Nat), .int .i64 0]
    have e0 := hn2.cell0 0 (by simp); have e1 := hn2.cell0 1 (by simp)
    simp only [List.getElem_cons_zero, List.getElem_cons_succ] at e0 e1
    exact bodyPost_ret (v := .agg #[.int .i64 (a : Nat), .int .i64 0]) (by simp [results, Try.results86, go_sem, e0, e1]) rfl ⟨rfl, 0, rfl⟩
/-- how two ends are compared -/
def cmpK (s : List UInt8) (k : Nat) (R : List Nat) (i j : Nat) : Int := if R.getD i 0 = R.getD j 0 then (key2 s k R i : Int) - (key2 s k R j : Int) else (R.getD i 0 : Int) - (R.getD j 0 : Int)
end Go.Proofs.Ytenhblpegobbjaa
