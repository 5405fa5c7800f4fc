/- All, Slice. -/
import Derived.Test.YtenhblpegobbjaaPieceF
import Derived.Test.YtenhblpegobbjaaAppendR
import Derived.Test.YtenhblpegobbjaaInfo
import Derived.Lib.AppendStr
namespace Go.Proofs.Ytenhblpegobbjaa
open Go.RowKit Go.Shelf
open Piece
set_option linter.unusedVariables false
set_option linter.unusedSimpArgs false
attribute [local go_sem] Oper.semAt_some
set_option maxHeartbeats 1000000 in
theorem all1_in (F : Fence) (hd : F.depth = none) (n : Nat) (h53 : F.fn 53) (h54 : F.fn 54) (hro : F.round = none) (l Bt n₀ : Nat) (p0 : Option Addr) (T : Tr) (L : List Pc) (hL : L.map Subtype.val = T.pieces) (J Jx : List Pc → World → Prop)
    (hY : ∀ pre (x : Pc) W, J pre W → pre.length < L.length → YieldAt F (n - 1) Try.prog l #[.string (bstr x.1)] W fun e W' =>
      (e = .returned (.bool true) ∧ J (pre ++ [x]) W' ∧ Below n₀ W W') ∨ (e = .returned (.bool false) ∧ Jx (pre ++ [x]) W'))
    (W : World) (hBt : W.cell? ⟨Bt, 0, none⟩ = some (.pointer p0)) (hT : IsTr n₀ W p0 T) (h0 : J [] W) :
    CallsIn F n Try.prog 53 #[.func (.yield l) #[] #[], .pointer (some ⟨Bt, 0, none⟩)] W fun e W' => (∃ v, e = .returned v) ∧
      ((∃ ys, ys = L ∧ J ys W') ∨ (∃ pre, pre <+: L ∧ Jx pre W')) := by
  have hdd : ∀ k : Nat, (F.depth.isSome = true → 1 ≤ k) := fun k h => by rw [hd] at h; cases h
  have hp := walk_in F hd h54 hro l n₀ L.length J Jx (fun m pre x W hj hl => YieldAt.anyDepth hd m (hY pre x W hj hl)) T L hL (n - 1) p0 [] W hT h0 (by simp)
  refine callsIn_of_wp Try.func53 rfl h53 ?_ hro
  simp only [Try.ntmps53, List.size_toArray, List.length_cons, List.length_nil, Nat.reduceAdd, Nat.reduceSub, Array.replicate_succ, Array.replicate_zero, List.push_toArray, List.append_toArray, List.nil_append, List.cons_append]
  gi_wp2_with ((try refine ⟨hdd _, ?_⟩); gi_at_call 54; refine hp.mono ?_; clear hp; rintro e W1 (⟨rfl, hJ1, _⟩ | ⟨rfl, q, hq, hx⟩))
  · go_end0
    exact ⟨⟨_, rfl⟩, .inl ⟨_, rfl, by simpa using hJ1⟩⟩
  · go_end0
    exact ⟨⟨_, rfl⟩, .inr ⟨q, hq, by simpa using hx⟩⟩
set_option maxHeartbeats 1000000 in
theorem all_in (F : Fence) (n : Nat) (h : F.fn 21) (hro : F.round = none) (p0 : Option Addr) (w : World) :
    CallsIn F n Try.prog 21 #[.agg #[.pointer p0]] w fun e w' => e = .returned (.func (.func 53) #[] #[.pointer (some ⟨w.heap.size, 0, none⟩)]) ∧ w' = w.alloc (.cells #[.pointer p0] 26) := by
  refine callsIn_of_wp Try.func21 rfl h ?_ hro
  simp only [Try.ntmps21, List.size_toArray, List.length_cons, List.length_nil, Nat.reduceAdd, Nat.reduceSub, Array.replicate_succ, Array.replicate_zero, List.push_toArray, List.append_toArray, List.nil_append, List.cons_append]
  gi_wp2
  go_ret
  exact ⟨rfl, rfl⟩
theorem all_stops (F : Fence) (hd : F.depth = none) (n : Nat) (h53 : F.fn 53) (h54 : F.fn 54) (hro : F.round = none) (Bt n₀ : Nat) (p0 : Option Addr) (T : Tr) (L : List Pc) (hL : L.map Subtype.val = T.pieces) (w : World) (hBt : Bt < w.heap.size) (hn₀ : n₀ ≤ w.heap.size)
    (hc : w.cell? ⟨Bt, 0, none⟩ = some (.pointer p0)) (hT : IsTr n₀ w p0 T) :
    SeqStopsK F n Try.prog 53 #[.pointer (some ⟨Bt, 0, none⟩)] (fun x : Pc => #[Value.string (bstr x.1)]) (Below n₀) (fun ys => ys = L) (fun pre => pre <+: L) L.length w := fun l J Jx W hW _ _ hY h0 =>
  all1_in F hd n h53 h54 hro l Bt n₀ p0 T L hL J Jx hY W ((hW.cell (p := ⟨Bt, 0, none⟩) hBt).trans hc) (hT.below (hW.mono hn₀)) h0
theorem Len_any (p : Option Addr) (T : Tr) (n₀ : Nat) (w : World) (h : IsTr n₀ w p T) (hn : n₀ ≤ w.heap.size) :
    Calls Try.prog 19 #[.agg #[.pointer p]] w fun e w' => e = .returned (.int .i64 (T.text.length : Nat)) ∧ Below w.heap.size w w' := by
  have hb := (Below.refl w.heap.size w).alloc (Nat.le_refl _) (.cells #[.pointer p] 26)
  have s1 := size_any _ p T _ (h.below (hb.mono hn))
  have S1 := Lib.hid s1; clear s1 h
  go_enter Try.func19, Try.ntmps19
  go_wp2_with fail
  refine S1.out.mono ?_
  rintro e w1 ⟨rfl, rfl⟩
  go_wp2_with fail
  go_ret
  exact ⟨rfl, hb⟩
theorem fullList {T : Tr} (h : T.full) (hw : Tr.wt T ≤ 110000) (hl : T.text.length ≤ 100000) : ∃ L : List Pc, L.map Subtype.val = T.pieces ∧ L.length ≤ 110000 := by
  have hle : ∀ x ∈ T.pieces, x.length ≤ 100000 := by
    intro x hx
    rw [T.text_eq] at hl
    have : ∀ (l : List (List UInt8)), x ∈ l → x.length ≤ l.flatten.length := by
      intro l
      induction l with
      | nil => intro h; cases h
      | cons y l ih =>
        intro h
        rw [List.flatten_cons, List.length_append]
        rcases List.mem_cons.1 h with rfl | h
        · omega
        · have := ih h; omega
    have := this _ hx
    omega
  refine ⟨T.pieces.attach.map fun x => ⟨x.1, h x.1 x.2, hle x.1 x.2⟩, ?_, ?_⟩
  · rw [List.map_map]
    exact List.attach_map_subtype_val _
  · rw [List.length_map, List.length_attach, ← T.count_eq]
    unfold Tr.wt at hw; omega
theorem wpListIn_pushS {F : Fence} {nn : Nat} {P : Program} (w : World) {ops : Array Oper} {rest : List Oper} {o : Oper} {act : Act} {Q : Exit → Act → World → Prop} (hgd : o.guard = none) (s x : Operand) (t u : TypeId)
    (hop : o.op = .call { callee := .builtin .append, args := #[s, x], argTypes := #[t, u] })
    (B : Nat) (e : TypeId) (ht : P.underlying t = some (.slice e)) (hu : P.underlying u = some .string) (hinf : (P.info? e).map (fun i => (i.zero, i.size, i.bytes)) = some (some (.int .u8 0), 1, 1))
    (v : Value) (n : Nat) (l : List UInt8) (hs : act.eval s = v) (hown : w.ownsRow B e 1 v n (bvals l))
    (m : List UInt8) (hx : act.eval x = .string (bstr m)) (hsz : n + m.length ≤ 140737488355328) (hbase : B ≤ w.heap.size)
    (h : ∀ v' w', w'.ownsRow B e 1 v' (n + m.length) (bvals (l ++ m)) → w.grownBy w' v.ownBlock → wpListIn F nn P ops Q rest (act.put o.dst v') w') :
    wpListIn F nn P ops Q (o :: rest) act w := by
  obtain ⟨i, hi, hz, hsize, hby⟩ := info_parts hinf
  refine wpListIn_plain hgd fun K hK' => ?_
  obtain ⟨v', w', hrun, r1, r2, r3⟩ := Lib.run_append_own_string (P := P) (w := w) B t u o.type e i ht hu hi hz hsize hby v n (bvals l) hown (bstr m) (by rw [bstr_size]; unfold maxLen; omega) (by rw [bstr_size]; omega) hbase
  have hc : bvals l ++ Lib.strCells (bstr m) = bvals (l ++ m) := by simp [bvals, Lib.strCells, bval, bstr]
  rw [hc, bstr_size] at r1
  unfold Oper.wpIn
  refine ⟨?_, ?_⟩
  · simp [Oper.about, hop, resolve, Target.leads, Sem.run_pure]
  · rw [Oper.semAt_plain F _ _ (by rw [hop]; intro c hc'; cases hc')]
    simp [execOp, hop, resolve, invoke, builtin, hs, hx, hrun, Result.andThen]
    exact hK' _ _ (h v' w' r1 r2)
theorem ownsForm {W : World} {base : Nat} {e : TypeId} {size : Nat} {v : Value} {k : Nat} {xs : List Value} (h : W.ownsRow base e size v k xs) : ∃ a c, v = .slice a k c := by
  rcases h.2 with ⟨h1, h2⟩ | ⟨g, cap, _, h1, _⟩
  · exact ⟨none, 0, by rw [h1, h2]⟩
  · exact ⟨_, cap, h1⟩
theorem conv_own {w : World} {B : Nat} {a : Option Addr} {n cap : Nat} {l : List UInt8} (h : w.ownsRow B 5 1 (.slice a n cap) n (bvals l)) : (convert 79 9 (.slice a n cap)).run Try.prog w = .ok (.string (bstr l)) w := by
  have h' : Owns w B 5 1 a n cap (bvals l) := h
  have hl := h'.len
  rw [bvals_length, Nat.mul_one] at hl
  cases a with
  | none =>
    obtain ⟨h1, h2, h3⟩ := h'.of_none
    subst h1 h2
    obtain rfl : l = [] := List.eq_nil_of_length_eq_zero hl
    have hcv : ∀ w, (convert 79 9 (.slice none 0 0)).run Try.prog w = .ok (.string (bstr [])) w := fun w => by kernel_rfl
    exact hcv w
  | some x =>
    obtain ⟨e1, e2, e3, e4, e5⟩ := h'.row
    rw [e1]
    exact run_string_of (P := Try.prog) 79 5 9 Try.underlying79 Try.underlying5 Try.underlying9 e5 n cap hl.symm
theorem Boxed.appendedS {W w1 : World} {n₀ B : Nat} {t e : TypeId} {size : Nat} {v v' : Value} {k m : Nat} {xs ys : List Value}
    (hv : Boxed W B t v) (hte : t ≠ e) (hrow : W.ownsRow n₀ e size v k xs) (hn₀ : n₀ ≤ W.heap.size) (hB : n₀ ≤ B)
    (hown' : w1.ownsRow n₀ e size v' m ys) (hgrow : W.grownBy w1 v.ownBlock) :
    Boxed w1 B t v ∧ Boxed (w1.setCell ⟨B, 0, none⟩ v') B t v' ∧ (w1.setCell ⟨B, 0, none⟩ v').ownsRow n₀ e size v' m ys ∧ KeepsOthers W (w1.setCell ⟨B, 0, none⟩ v') ∧ Below n₀ W (w1.setCell ⟨B, 0, none⟩ v') := by
  have hv1 : Boxed w1 B t v := hv.kept hgrow (hv.not_row hte hrow)
  refine ⟨hv1, hv1.set v', hown'.kept (grownBy_setCell' w1 B v') (.inr (hv1.not_row hte hown').symm), ?_, ?_⟩
  · refine (KeepsOthers.of_grownBy hgrow fun j o ej hj => ?_).trans (KeepsOthers.setCell _ _ _)
    rcases hrow.2 with ⟨rfl, _⟩ | ⟨g, cap, cur, rfl, _, hgb, _⟩
    · simp [Value.ownBlock] at ej
    · obtain rfl : g = j := by simpa [Value.ownBlock] using ej
      rw [hgb] at hj; cases hj; rfl
  · refine ((Below.refl n₀ W).grown hgrow hn₀ fun j ej => ?_).setCell (p := ⟨B, 0, none⟩) hB v'
    rcases hrow.2 with ⟨rfl, _⟩ | ⟨g, cap, cur, rfl, hb, _, _⟩
    · simp [Value.ownBlock] at ej
    · obtain rfl : g = j := by simpa [Value.ownBlock] using ej
      exact hb
def flat (L : List Pc) : List UInt8 := (L.map Subtype.val).flatten
theorem flat_snoc (L : List Pc) (x : Pc) : flat (L ++ [x]) = flat L ++ x.1 := by simp [flat]
theorem flat_bound : ∀ (L : List Pc), (flat L).length ≤ L.length * 100000
  | [] => by simp [flat]
  | x :: L => by
    have h1 := flat_bound L
    have h2 := x.2.2
    have e : (flat (x :: L)).length = x.1.length + (flat L).length := by simp [flat]
    rw [e, List.length_cons]; omega
theorem flat_le {pre L : List Pc} (h : pre <+: L) : (flat pre).length ≤ (flat L).length := by
  obtain ⟨r, rfl⟩ := h
  simp [flat]
set_option maxRecDepth 100000 in
set_option maxHeartbeats 4000000 in
theorem Slice_any (p : Option Addr) (T : Tr) (a b : Nat) (w : World) (h : IsTr w.heap.size w p T) (hf : T.full) (hw : Tr.wt T ≤ 100000) (hab : a ≤ b) (hb : b ≤ T.text.length) :
    Calls Try.prog 50 #[.agg #[.pointer p], .int .i64 a, .int .i64 b] w fun e w' => e = .returned (.tuple #[.string (bstr ((T.text.drop a).take (b - a))), .nilIface]) ∧ Below w.heap.size w w' := by
  have hb0 := (Below.refl w.heap.size w).alloc (Nat.le_refl _) (.cells #[.pointer p] 26)
  have h1 := h.keep hb0
  have hc1 : (w.alloc (.cells #[.pointer p] 26)).cell? ⟨w.heap.size, 0, none⟩ = some (.pointer p) := (RowAt.new w 26 #[.pointer p]).cell0 0 (by simp)
  have hbl : T.text.length ≤ 100000 := by have := T.text_len_wt; omega
  have hln := Len_any p T _ _ h1 (Nat.le_refl _)
  refine (callsIn_wide (n := 9)).1 ?_
  refine callsIn_of_wp_marks Try.func50 rfl trivial ?_ rfl
  simp only [Try.ntmps50, List.size_toArray, List.length_cons, List.length_nil, Nat.reduceAdd, Nat.reduceSub, Array.replicate_succ, Array.replicate_zero, List.push_toArray, List.append_toArray, List.nil_append, List.cons_append]
  have q0 : decide ((a : Int) < 0) = false := decide_eq_false (by omega)
  have q1 : decide (b < a) = false := decide_eq_false (by omega)
  have q2 : decide (T.text.length < b) = false := decide_eq_false (by omega)
  have e3 : (b : Int) - (a : Int) = ((b - a : Nat) : Int) := by omega
  obtain ⟨x1, x2⟩ := Tr.cut_text T a hf (by omega)
  obtain ⟨f1, f2, _⟩ := Tr.cut_full T a hf (by omega)
  have hlen2 : b - a ≤ (Tr.cut T a).2.text.length := by rw [x2, List.length_drop]; omega
  obtain ⟨x3, x4⟩ := Tr.cut_text (Tr.cut T a).2 (b - a) f2 hlen2
  obtain ⟨f3, f4, _⟩ := Tr.cut_full (Tr.cut T a).2 (b - a) f2 hlen2
  have y1 := Tr.wt_cut T a
  have y2 := Tr.wt_cut (Tr.cut T a).2 (b - a)
  have hcut1 := fun w1 h => cut_any T p a w1 h (by omega) (by omega)
  have hcut2 := fun q w1 h => cut_any (Tr.cut T a).2 q (b - a) w1 h (by omega) (by omega)
  have hwU : Tr.wt (Tr.cut (Tr.cut T a).2 (b - a)).1 ≤ 110000 := by omega
  rw [x2] at x3
  unfold CutOut at hcut1 hcut2
  generalize (Tr.cut (Tr.cut T a).2 (b - a)).1 = U at *
  generalize (Tr.cut (Tr.cut T a).2 (b - a)).2 = U2 at *
  generalize (Tr.cut T a).1 = V1 at *
  generalize (Tr.cut T a).2 = V2 at *
  have HUT := Lib.hid x3
  have C1 := Lib.hid hcut1; have C2 := Lib.hid hcut2; have LN := Lib.hid hln
  clear hcut1 hcut2 hln x1 x2 x3 x4 f1 f2 f4 hlen2 y1 y2
  generalize T.text.length = TL at *
  have HB0 := Lib.hid hb0
  have H1 := Lib.hid h1
  clear hb0 h1 h
  gi_wp2
  refine ⟨trivial, (callsIn_wide.2 LN.out).mono ?_⟩
  rintro e w1 ⟨rfl, hb1⟩
  have hbx : w.heap.size < (w.alloc (.cells #[.pointer p] 26)).heap.size := by simp
  have hc2 := (hb1.cell (p := ⟨w.heap.size, 0, none⟩) hbx).trans hc1
  have c1 := C1.out w1 (H1.out.keep hb1)
  have HB1 := Lib.hid (HB0.out.trans (hb1.mono HB0.out.size))
  clear hc1 C1 LN H1 HB0 hbx
  gi_wp2
  refine ⟨trivial, (callsIn_wide.2 c1).mono ?_⟩
  rintro e w2 ⟨p1, p2, rfl, hp1, hp2, hb2⟩
  have c2 := C2.out p2 w2 hp2
  have HB2 := Lib.hid (HB1.out.trans (hb2.mono HB1.out.size))
  clear c1 C2 hp1 hb1 hb2 HB1 hc2
  gi_wp2
  refine ⟨trivial, (callsIn_wide.2 c2).mono ?_⟩
  rintro e w3 ⟨p3, p4, rfl, hp3, hp4, hb3⟩
  have hB3 := HB2.out.trans (hb3.mono HB2.out.size)
  clear c2 hp4 hp2 hb3 HB2
  obtain ⟨L, hL, hLn⟩ := fullList f3 hwU (by rw [HUT.out, List.length_take, List.length_drop]; omega)
  have hfl : flat L = U.text := by unfold flat; rw [hL, ← Tr.text_eq]
  gi_wp2_with (refine ⟨trivial, ?_⟩; gi_at_call 21; refine (all_in Fence.wide 8 trivial rfl _ _).mono ?_; rintro e w' ⟨rfl, rfl⟩)
  have bO := Boxed.new w3 79 (.slice none 0 0)
  have bN := Boxed.new (w3.alloc (.cells #[.slice none 0 0] 79)) 26 (.pointer p3)
  rw [World.size_alloc] at bN
  have hB0 : Below w3.heap.size w3 ((w3.alloc (.cells #[.slice none 0 0] 79)).alloc (.cells #[.pointer p3] 26)) := ((Below.refl _ w3).alloc (Nat.le_refl _) _).alloc (by simp) _
  refine wpIn_rangeFunc_ownG rfl (by decide) (gf := 53) (lb := #[.pointer (some ⟨w3.heap.size + 1, 0, none⟩)]) rfl trivial (enters_of Try.func53 (by kernel_rfl) rfl)
    (all_stops Fence.wide rfl (9 - 1) trivial trivial rfl (w3.heap.size + 1) w3.heap.size p3 U L hL _ (by simp) (by simp; omega) bN.cell (hp3.below hB0)) belowK_t (belowK_b (by simp; omega)) (Below.refl _ _) (fun _ => rfl)
    (fun pre W => (∃ v, Boxed W w3.heap.size 79 v ∧ W.ownsRow w3.heap.size 5 1 v (flat pre).length (bvals (flat pre)) ∧ True) ∧ Below w3.heap.size w3 W)
    (fun _ _ _ => False)
    (OwnFrom.and (Own.from (holdsRow_own w3.heap.size w3.heap.size 79 5 1 (fun pre => (flat pre).length) (fun pre => bvals (flat pre)) (fun _ _ => True)) _) (ownFrom_below (Nat.le_refl _) (by simp; omega)))
    (fun _ _ _ _ _ hs _ _ => hs)
    ⟨⟨_, bO.alloc _, World.ownsRow_nil _ _ _ _, trivial⟩, hB0⟩
    (fun x => { tmps := #[.agg #[.pointer p], .int .i64 a, .int .i64 b,
          .pointer (some ⟨w.heap.size, 0, none⟩), undef, undef, .string { data := #[] },
          .nilIface, .pointer p1, .pointer p3, .pointer (some ⟨w3.heap.size, 0, none⟩),
          .string (bstr x.1), .int .i64 a, .bool false, .bool false, .int .i64 b,
          .int .i64 a, .bool false, .bool false, .bool false, .int .i64 b,
          .agg #[.pointer p], .int .i64 TL, .bool false, .bool false, undef,
          .tuple #[.pointer p1, .pointer p2], .pointer (some ⟨w.heap.size, 0, none⟩),
          .pointer p, .int .i64 a, .tuple #[.pointer p1, .pointer p2],
          .pointer p1, .pointer p2, .tuple #[.pointer p3, .pointer p4], .pointer p2,
          .int .i64 b, .int .i64 a, .int .i64 (b - a : Nat),
          .tuple #[.pointer p3, .pointer p4], .pointer p3, .pointer p4, .pointer p3,
          .agg #[.pointer p3],
          .func (.func 53) #[] #[.pointer (some ⟨w3.heap.size + 1, 0, none⟩)], .string (bstr x.1), undef,
          undef, undef, undef, undef], defers := [] }) ?assign ?body ?done ?stop
  case assign =>
    intro l x W K hK
    gi_wp2
    exact hK
  case body =>
    rintro l pre x W ⟨⟨v, hv, hrow, _⟩, hB⟩ hlt
    have hc := hv.cell
    have hpl := flat_bound pre
    have hx2 := x.2.2
    have hsz : (flat pre).length + x.1.length ≤ 140737488355328 := by
      have : pre.length * 100000 ≤ 110000 * 100000 := Nat.mul_le_mul_right _ (by omega)
      omega
    gi_wp2_with (gi_at_builtin; refine wpListIn_pushS _ rfl _ _ 79 9 rfl w3.heap.size 5 Try.underlying79 Try.underlying9 infoU8 v _ (flat pre) rfl hrow x.1 rfl hsz hB.size ?_; intro v' w1 hown' hgrow; obtain ⟨ga, gc, rfl⟩ := ownsForm hown'; obtain ⟨hv1, hv2, hr2, hk2, hb2⟩ := Boxed.appendedS hv (by decide) hrow hB.size (Nat.le_refl _) hown' hgrow; have hc1 := hv1.cell; have hf1 := hv1.frozen)
    exact ⟨hk2.from _, hb2, ⟨_, hv2, by rw [flat_snoc, List.length_append]; exact hr2, trivial⟩, hB.trans hb2⟩
  case done =>
    rintro D ys W hD rfl ⟨⟨v, hv, hrow, _⟩, hB⟩ hK
    have hc := hv.cell
    obtain ⟨ga, gc, rfl⟩ := ownsForm hrow
    have hcv := conv_own hrow
    have hbe : Below w.heap.size w (W.putObj D (.deferred none)) := hB3.trans ((hB.trans (belowK_b (w := w3) (Nat.le_refl _) W D _ _ (by simp at hD; omega) hK rfl rfl)).mono hB3.size)
    have hs : bstr (flat ys) = bstr ((T.text.drop a).take (b - a)) := by rw [hfl, HUT.out]
    have HS := Lib.hid hs
    have HBE := Lib.hid hbe
    clear hbe hs hfl hrow hv
    generalize (flat ys).length = nn at *
    generalize bstr (flat ys) = SS at *
    gi_wp2
    refine ⟨by simp, .inl ⟨_, _, rfl, run_takeDeferred hK, ?_⟩⟩
    exact ⟨.tuple #[.string SS, .nilIface], by simp [results, Try.results50, go_sem], by rw [HS.out], HBE.out⟩
  case stop =>
    rintro D c pre W _ _ h _
    exact h.elim
set_option maxRecDepth 100000 in
theorem String_any (p : Option Addr) (T : Tr) (w : World) (h : IsTr w.heap.size w p T) (hf : T.full) (hw : Tr.wt T ≤ 100000) :
    Calls Try.prog 17 #[.agg #[.pointer p]] w fun e w' => e = .returned (.string (bstr T.text)) ∧ Below w.heap.size w w' := by
  have hb0 := (Below.refl w.heap.size w).alloc (Nat.le_refl _) (.cells #[.pointer p] 26)
  have h1 := h.keep hb0
  have hc1 : (w.alloc (.cells #[.pointer p] 26)).cell? ⟨w.heap.size, 0, none⟩ = some (.pointer p) := (RowAt.new w 26 #[.pointer p]).cell0 0 (by simp)
  have hbx : w.heap.size < (w.alloc (.cells #[.pointer p] 26)).heap.size := by simp
  obtain ⟨w0, hw0⟩ : ∃ w0, w0 = w.alloc (.cells #[.pointer p] 26) := ⟨_, rfl⟩
  rw [← hw0] at hb0 h1 hc1 hbx
  have hln : ∀ w1, w1.cell? ⟨w.heap.size, 0, none⟩ = some (.pointer p) ∧ Below w0.heap.size w0 w1 → Calls Try.prog 19 #[.agg #[.pointer p]] w1 fun e w' => e = .returned (.int .i64 (T.text.length : Nat)) ∧ Below w1.heap.size w1 w' := fun w1 hb1 => Len_any p T _ w1 (h1.keep hb1.2) (Nat.le_refl _)
  have hsl : ∀ w1, w1.cell? ⟨w.heap.size, 0, none⟩ = some (.pointer p) ∧ Below w0.heap.size w0 w1 → Calls Try.prog 50 #[.agg #[.pointer p], .int .i64 0, .int .i64 (T.text.length : Nat)] w1 fun e w' => e = .returned (.tuple #[.string (bstr T.text), .nilIface]) ∧ Below w1.heap.size w1 w' := fun w1 hb1 => by
    have := Slice_any p T 0 T.text.length w1 (h1.keep hb1.2) hf hw (Nat.zero_le _) (Nat.le_refl _)
    rwa [List.drop_zero, Nat.sub_zero, List.take_length] at this
  have hkeep : ∀ {w1 w2 : World}, Below w1.heap.size w1 w2 → w1.cell? ⟨w.heap.size, 0, none⟩ = some (.pointer p) ∧ Below w0.heap.size w0 w1 → w2.cell? ⟨w.heap.size, 0, none⟩ = some (.pointer p) ∧ Below w0.heap.size w0 w2 := fun hb h => ⟨(hb.cell (p := ⟨w.heap.size, 0, none⟩) (Nat.lt_of_lt_of_le hbx h.2.size)).trans h.1, h.2.trans (hb.mono h.2.size)⟩
  generalize bstr T.text = S at *
  generalize T.text.length = n at *
  have LN := Lib.hid hln; have SL := Lib.hid hsl
  have HW0 := Lib.hid hw0
  have HZ := Lib.hid hb0.size
  have HB0 := Lib.hid hb0
  clear hln hsl hw0 h h1 hf hw hb0
  go_enter Try.func17, Try.ntmps17
  go_wp2_with fail
  rw [← HW0.out]
  generalize hbxe : w.heap.size = bx at *
  have HBXE := Lib.hid hbxe; clear hbxe
  go_region_held3 (fun w1 => w1.cell? ⟨bx, 0, none⟩ = some (.pointer p) ∧ Below w0.heap.size w0 w1)
    (first
      | exact ⟨hc1, (Below.refl _ _).drew⟩
      | exact hkeep hbX (by assumption))
    (first
      | (go_at_call 19; ((with_reducible refine (LN.out _ (by assumption)).mono ?_); rintro e w9 ⟨rfl, hbX⟩))
      | (go_at_call 50; ((with_reducible refine (SL.out _ (by assumption)).mono ?_); rintro e w9 ⟨rfl, hbX⟩)))
  rename_i hHeld
  have hB := hHeld.2
  go_wp2_with fail
  go_ret
  exact ⟨rfl, by rw [HBXE.out]; exact HB0.out.trans (hB.mono HZ.out)⟩
end Go.Proofs.Ytenhblpegobbjaa
