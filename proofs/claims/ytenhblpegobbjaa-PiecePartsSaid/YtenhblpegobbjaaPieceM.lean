/- The law PieceParts, at all arguments. -/
import Derived.Test.YtenhblpegobbjaaPieceL
namespace Go.Proofs.Ytenhblpegobbjaa
open Go.RowKit Go.Shelf
open Piece
set_option linter.unusedVariables false
set_option linter.unusedSimpArgs false
attribute [local go_sem] Oper.semAt_some
set_option maxRecDepth 100000 in
set_option maxHeartbeats 2000000 in
theorem PieceParts_big (s x : List UInt8) (aa ao : Option Addr) (na ca no co : Nat) (stop : Int) (w : World) (h : ¬ (s.length ≤ 200 ∧ na ≤ 60 ∧ x.length ≤ 40)) :
    Calls Try.prog 4 #[.string (bstr s), .slice aa na ca, .slice ao no co, .string (bstr x), .int .i64 stop] w fun e w' => e = .returned (.bool true) ∧ Below w.heap.size w w' := by
  have b2 := Boxed.new (w.alloc (.cells #[.int .i64 stop] 3)) 4 (.bool false)
  have hB0 : Below w.heap.size w ((w.alloc (.cells #[.int .i64 stop] 3)).alloc (.cells #[.bool false] 4)) := ((Below.refl _ w).alloc (Nat.le_refl _) _).alloc (by simp) _
  have hs0 : ((w.alloc (.cells #[.int .i64 stop] 3)).alloc (.cells #[.bool false] 4)).heap.size = w.heap.size + 2 := by simp
  rw [World.size_alloc] at b2
  generalize hw0 : (w.alloc (.cells #[.int .i64 stop] 3)).alloc (.cells #[.bool false] 4) = w0 at *
  have HW0 := Lib.hid hw0
  have HB0 := Lib.hid hB0
  clear hw0 hB0
  have hcases : (200 < s.length) ∨ (s.length ≤ 200 ∧ 60 < na) ∨ (s.length ≤ 200 ∧ na ≤ 60 ∧ 40 < x.length) := by omega
  clear h
  refine (callsIn_wide (n := 9)).1 ?_
  refine callsIn_of_wp_marks Try.func4 rfl trivial ?_ rfl
  simp only [Try.ntmps4, List.size_toArray, List.length_cons, List.length_nil, Nat.reduceAdd, Nat.reduceSub, Array.replicate_succ, Array.replicate_zero, List.push_toArray, List.append_toArray, List.nil_append, List.cons_append]
  refine wpIn_wide.2 ?_
  go_wp2_with fail
  rw [HW0.out]
  refine (pieced_any _).mono ?_
  rintro e w1 ⟨rfl, hb1⟩
  have b3 := box_below b2 hb1 (by omega)
  have hc := b3.cell
  have hf := b3.frozen
  have b4 := (b3.set (.bool true)).cell
  have hbe : Below w.heap.size w (w1.setCell ⟨w.heap.size + 1, 0, none⟩ (.bool true)) := (HB0.out.trans (hb1.mono HB0.out.size)).setCell (p := ⟨w.heap.size + 1, 0, none⟩) (Nat.le_succ _) _
  have HBE := Lib.hid hbe
  clear hbe hb1 b2 b3
  rcases hcases with h1 | ⟨h1, h2⟩ | ⟨h1, h2, h3⟩
  · have q1 : decide ((200 : Int) < (s.length : Int)) = true := decide_eq_true (by omega)
    go_wp2_with fail
    exact ⟨.bool true, by simp [results, Try.results4, go_sem, b4], rfl, HBE.out⟩
  · have q1 : decide ((200 : Int) < (s.length : Int)) = false := decide_eq_false (by omega)
    have q2 : decide ((60 : Int) < (na : Int)) = true := decide_eq_true (by omega)
    go_wp2_with fail
    exact ⟨.bool true, by simp [results, Try.results4, go_sem, b4], rfl, HBE.out⟩
  · have q1 : decide ((200 : Int) < (s.length : Int)) = false := decide_eq_false (by omega)
    have q2 : decide ((60 : Int) < (na : Int)) = false := decide_eq_false (by omega)
    have q3 : decide ((40 : Int) < (x.length : Int)) = true := decide_eq_true (by omega)
    go_wp2_with fail
    exact ⟨.bool true, by simp [results, Try.results4, go_sem, b4], rfl, HBE.out⟩
theorem PieceParts_walk (w : World) (s : ByteArray) (aa : Option Addr) (na ca : Nat) (zs : List Int) (ao : Option Addr) (no co : Nat) (ys : List Int) (x : ByteArray) (stop : Int) (hs : s.size ≤ 140737488351232) (hz : IsInts .i64 w aa na ca zs) (hy : IsInts .i64 w ao no co ys) (hx : x.size ≤ 140737488351232) (h1 : -9223372036854775808 ≤ stop) (h2 : stop ≤ 9223372036854775807) :
    Calls Try.prog 4 #[.string s, .slice aa na ca, .slice ao no co, .string x, .int .i64 stop] w fun e w' => e = .returned (.bool true) ∧ Below w.heap.size w w' := by
  rw [eq_bstr s, eq_bstr x]
  by_cases h : s.data.toList.length ≤ 200 ∧ na ≤ 60 ∧ x.data.toList.length ≤ 40
  · have hl := hy.len
    exact PieceParts_in _ _ (zs.take na) (ys.take no) aa ao na ca no co stop w h.1 h.2.2 hz.rd hz.take_len h.2.1 hy.rd hy.take_len (by omega) ⟨h1, h2⟩ hz.lo hy.lo
  · exact PieceParts_big _ _ aa ao na ca no co stop w h
end Go.Proofs.Ytenhblpegobbjaa
