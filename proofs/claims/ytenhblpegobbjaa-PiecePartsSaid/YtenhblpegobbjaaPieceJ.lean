/- Parts, deepest. -/
import Derived.Test.YtenhblpegobbjaaPieceI
namespace Go.Proofs.Ytenhblpegobbjaa
open Go.RowKit Go.Shelf
open Piece
set_option linter.unusedVariables false
set_option linter.unusedSimpArgs false
attribute [local go_sem] Oper.semAt_some
theorem box_own {β : Type} (b : Nat) (t : TypeId) (f : β → Value) : Own (fun s W => Boxed W b t (f s)) := by
  rintro s X Y row hv hg hrow
  refine hv.kept hg (fun e' => ?_)
  obtain ⟨o, ho, hc⟩ := hrow b e'.symm
  rw [show X.heap[b]? = _ from hv] at ho; cases ho; cases hc
def PS (w : World) (D B1 B2 : Nat) (p : Option Addr) (T : Tr) (n : Nat) (w1 : World) : Prop :=
  w1.cell? ⟨B2, 0, none⟩ = some (.int .i64 n) ∧ w1.frozen? ⟨B2, 0, none⟩ = false ∧ w1.cell? ⟨B1, 0, none⟩ = some (.pointer p) ∧ IsTr w.heap.size w1 p T ∧ Below w.heap.size w w1 ∧ w1.heap[D]? = some (.deferred (some []))
theorem PS.drew {w : World} {D B1 B2 : Nat} {p : Option Addr} {T : Tr} {n : Nat} {w1 : World} (h : PS w D B1 B2 p T n w1) : PS w D B1 B2 p T n w1.drew :=
  ⟨h.1, h.2.1, h.2.2.1, h.2.2.2.1.below (Below.refl _ _).drew, h.2.2.2.2.1.drew, h.2.2.2.2.2⟩
theorem PS.set {w : World} {D : Nat} {p : Option Addr} {T : Tr} {n : Nat} {w1 : World} (h : PS w D w.heap.size (w.heap.size + 1) p T n w1) (hD : w.heap.size + 1 < D) (v2 : Boxed w1 (w.heap.size + 1) 3 (.int .i64 n)) (v1 : Boxed w1 w.heap.size 26 (.pointer p)) :
    PS w D w.heap.size (w.heap.size + 1) p T n (w1.setCell ⟨w.heap.size + 1, 0, none⟩ (.int .i64 n)) := by
  have hb : Below w.heap.size w1 (w1.setCell ⟨w.heap.size + 1, 0, none⟩ (.int .i64 n)) := (Below.refl _ _).setCell (p := ⟨w.heap.size + 1, 0, none⟩) (Nat.le_succ _) _
  refine ⟨(v2.set _).cell, (v2.set _).frozen, (v1.other (by omega) _).cell, h.2.2.2.1.below hb, h.2.2.2.2.1.trans hb, ?_⟩
  have := h.2.2.2.2.2
  simp only [World.setCell, Array.getElem?_modify]
  rw [if_neg (by omega)]
  exact this
set_option maxRecDepth 100000 in
set_option maxHeartbeats 4000000 in
theorem Parts_any (p : Option Addr) (T : Tr) (w : World) (h : IsTr w.heap.size w p T) (hf : T.full) (hw : T.text.length ≤ 2600) :
    Calls Try.prog 18 #[.agg #[.pointer p]] w fun e w' => e = .returned (.tuple #[.int .i64 (T.count : Nat), .int .i64 (T.high : Nat)]) ∧ Below w.heap.size w w' := by
  have hwt := full_wt hf
  obtain ⟨L, hL, hLn⟩ := fullList hf (by omega) (by omega)
  have hlc : L.length = T.count := by rw [T.count_eq, ← hL, List.length_map]
  have hcb : T.count ≤ 110000 := by rw [← hlc]; exact hLn
  have b1 := Boxed.new w 26 (.pointer p)
  have b2 := Boxed.new (w.alloc (.cells #[.pointer p] 26)) 3 (.int .i64 0)
  have b3 := Boxed.new ((w.alloc (.cells #[.pointer p] 26)).alloc (.cells #[.int .i64 0] 3)) 26 (.pointer p)
  have hB0 : Below w.heap.size w (((w.alloc (.cells #[.pointer p] 26)).alloc (.cells #[.int .i64 0] 3)).alloc (.cells #[.pointer p] 26)) := (((Below.refl _ w).alloc (Nat.le_refl _) _).alloc (by simp) _).alloc (by simp; omega) _
  have b1' := (b1.alloc (.cells #[.int .i64 0] 3)).alloc (.cells #[.pointer p] 26)
  have b2' := b2.alloc (.cells #[.pointer p] 26)
  simp only [World.size_alloc] at b1 b2 b3 b1' b2'
  refine (callsIn_wide (n := 9)).1 ?_
  refine callsIn_of_wp_marks Try.func18 rfl trivial ?_ rfl
  simp only [Try.ntmps18, List.size_toArray, List.length_cons, List.length_nil, Nat.reduceAdd, Nat.reduceSub, Array.replicate_succ, Array.replicate_zero, List.push_toArray, List.append_toArray, List.nil_append, List.cons_append]
  refine wpIn_wide.2 ?_
  go_wp2_with (go_at_call 21; refine (callsIn_wide.1 (all_in Fence.wide 8 trivial rfl p _)).mono ?_; rintro e w' ⟨rfl, rfl⟩)
  refine (wpIn_wide (n := 9)).1 ?_
  refine wpIn_rangeFunc_ownG rfl (by decide) (gf := 53) (lb := #[.pointer (some ⟨w.heap.size + 1 + 1, 0, none⟩)]) rfl trivial (enters_of Try.func53 (by kernel_rfl) rfl)
    (all_stops Fence.wide rfl (9 - 1) trivial trivial rfl (w.heap.size + 1 + 1) w.heap.size p T L hL _ (by simp) (by simp; omega) b3.cell (h.below hB0)) belowK_t (belowK_b (by simp; omega)) (Below.refl _ _) (fun _ => rfl)
    (fun pre W => (Boxed W w.heap.size 26 (.pointer p) ∧ Boxed W (w.heap.size + 1) 3 (.int .i64 (pre.length : Nat))) ∧ Below w.heap.size w W)
    (fun _ _ _ => False)
    (OwnFrom.and (Own.from (fun s X Y row hs hg hr => ⟨boxed_own w.heap.size 26 (fun _ : List Pc => .pointer p) s X Y row hs.1 hg hr, boxed_own (w.heap.size + 1) 3 (fun pre : List Pc => .int .i64 (pre.length : Nat)) s X Y row hs.2 hg hr⟩) _) (ownFrom_below (Nat.le_refl _) (by simp; omega)))
    (fun _ _ _ _ _ hs _ _ => hs)
    ⟨⟨b1', b2'⟩, hB0⟩
    (fun x => { tmps := #[.agg #[.pointer p], .pointer (some ⟨w.heap.size, 0, none⟩), .pointer (some ⟨w.heap.size + 1, 0, none⟩), .int .i64 0, .agg #[.pointer p],
          .func (.func 53) #[] #[.pointer (some ⟨w.heap.size + 1 + 1, 0, none⟩)], .string (bstr x.1), undef, undef, undef, undef, undef, undef], defers := [] }) ?assign ?body ?done ?stop
  case assign =>
    intro l x W K hK
    gi_wp2
    simpa using hK
  case body =>
    rintro l pre x W ⟨⟨v1, v2⟩, hB⟩ hlt
    have hc := v2.cell
    have hfz := v2.frozen
    have hpb : pre.length + 1 ≤ 110000 := by omega
    gi_wp2
    refine ⟨(KeepsOthers.setCell _ _ _).from _, (Below.refl _ _).setCell (p := ⟨w.heap.size + 1, 0, none⟩) (Nat.le_succ _) _, ⟨Boxed.other v1 (by omega) _, ?_⟩, hB.setCell (p := ⟨w.heap.size + 1, 0, none⟩) (Nat.le_succ _) _⟩
    have := v2.set (.int .i64 ((pre ++ [x]).length : Nat))
    rw [List.length_append, List.length_singleton] at this ⊢
    exact this
  case done =>
    rintro D ys W hD rfl ⟨⟨v1, v2⟩, hB⟩ hK
    rw [hlc] at v2
    have hps : PS w D w.heap.size (w.heap.size + 1) p T T.count W := ⟨v2.cell, v2.frozen, v1.cell, h.below hB, hB, hK⟩
    have hpe := (hps.set (by simp at hD; omega) v2 v1).drew
    have hpd := hps.drew
    obtain ⟨r1, r2, r3, r4, r5, r6⟩ := hpd
    clear v1 v2 hK hB
    go_wp2_with fail
    go_region_held3 (fun w1 => w1.cell? ⟨w.heap.size + 1, 0, none⟩ = some (.int .i64 (T.count : Nat)) ∧ w1.frozen? ⟨w.heap.size + 1, 0, none⟩ = false ∧ w1.cell? ⟨w.heap.size, 0, none⟩ = some (.pointer p) ∧ IsTr w.heap.size w1 p T ∧ Below w.heap.size w w1 ∧ w1.heap[D]? = some (.deferred (some [])))
      (first
        | exact ⟨r1, r2, r3, r4, r5, r6⟩
        | exact hpe)
      (first | (go_at_call 51; ((with_reducible refine (high_any _ p T _ (by assumption)).mono ?_); rintro e w9 ⟨rfl, rfl⟩)))
    obtain ⟨u1, u2, u3, u4, u5, u6⟩ := hpe
    go_wp2_with fail
    generalize (W.setCell ⟨w.heap.size + 1, 0, none⟩ (.int .i64 (T.count : Nat))).drew = WX at *
    have hD2 : w.heap.size + 1 < D := by simp at hD; omega
    have hbe : Below w.heap.size w (WX.putObj D (.deferred none)) := u5.trans (belowK_b (w := w) (Nat.le_refl _) WX D _ _ (by omega) u6 rfl rfl)
    have hcz : (WX.putObj D (.deferred none)).cell? ⟨w.heap.size + 1, 0, none⟩ = some (.int .i64 (T.count : Nat)) :=
      ((belowK_b (w := (w.alloc (.cells #[.pointer p] 26)).alloc (.cells #[.int .i64 0] 3)) (Nat.le_refl _) WX D _ _ (by simp; omega) u6 rfl rfl).cell (p := ⟨w.heap.size + 1, 0, none⟩) (by simp)).trans u1
    refine ⟨by simp, .inl ⟨_, _, rfl, run_takeDeferred u6, ?_⟩⟩
    exact ⟨.tuple #[.int .i64 (T.count : Nat), .int .i64 (T.high : Nat)], by simp [results, Try.results18, go_sem, hcz], rfl, hbe⟩
  case stop =>
    rintro D c pre W _ _ h _
    exact h.elim
end Go.Proofs.Ytenhblpegobbjaa
