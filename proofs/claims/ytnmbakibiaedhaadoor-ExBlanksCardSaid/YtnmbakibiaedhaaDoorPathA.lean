/- Contract of ex.path. -/
import Derived.Test.YtnmbakibiaedhaaDoorSeqDot
import Derived.Test.YtnmbakibiaedhaaDoorNumA
import Derived.Test.YtnmbakibiaedhaaDoorInfo
import Derived.Lib.BufferWrite
namespace Go.Proofs.YtnmbakibiaedhaaDoor
open Go.RowKit Go.Shelf
set_option linter.unusedVariables false
set_option linter.unusedSimpArgs false
attribute [local go_sem] Oper.semAt_some
theorem wpListIn_pushI {F : Fence} {nn : Nat} {P : Program} (w : World) {ops : Array Oper} {rest : List Oper} {o : Oper} {act : Act} {Q : Exit → Act → World → Prop} (hgd : o.guard = none) (s x : Operand) (t : TypeId)
    (hop : o.op = .call { callee := .builtin .append, args := #[s, x], argTypes := #[t, t] })
    (B : Nat) (e : TypeId) (ht : P.underlying t = some (.slice e)) (hinf : (P.info? e).map (fun i => (i.zero, i.size, i.bytes)) = some (some (.int .i64 0), 1, 8))
    (v : Value) (n : Nat) (l : List Int) (z : Int) (hs : act.eval s = v) (hown : w.ownsRow B e 1 v n (ivals l)) (ad : Addr) (c : Nat) (hx : act.eval x = .slice (some ad) 1 c) (hc : w.cell? (ad.add 0) = some (.int .i64 z))
    (hsz : (n + 1) * 8 ≤ 140737488355328) (hml : n + 1 ≤ maxLen) (hbase : B ≤ w.heap.size)
    (h : ∀ v' w', w'.ownsRow B e 1 v' (n + 1) (ivals (l ++ [z])) → w.grownBy w' v.ownBlock → wpListIn F nn P ops Q rest (act.put o.dst v') w') :
    wpListIn F nn P ops Q (o :: rest) act w := by
  obtain ⟨i, hi, hz, hsize, hby⟩ := info_parts hinf
  refine wpListIn_append_own w hgd s x t hop B e i _ 1 8 ht hi hz hsize hby rfl (by decide) v n (ivals l) hs hown ad 1 c [.int .i64 z] hx rfl ?_ (by intro u hu; simp at hu; subst hu; rfl) hml (by omega) hbase ?_
  · intro j u hj
    cases j with
    | zero => simp at hj; rw [← hj]; exact hc
    | succ j => simp at hj
  · intro v' w' r1 r2 _
    have e : ivals l ++ [.int .i64 z] = ivals (l ++ [z]) := by simp [ivals]
    rw [e] at r1
    exact h v' w' r1 r2
namespace Ex
open Num
theorem pathTo_snoc (x : List UInt8) : ∀ (pre : List (List UInt8)) (out : List Int), pathTo pre = some out → pathTo (pre ++ [x]) = (match parseOf 10 x with
    | .inl n => some (out ++ [((n % 4611686018427387904 : Nat) : Int)])
    | .inr _ => none)
  | [], out, h => by
    simp only [pathTo, Option.some.injEq] at h
    subst h
    simp only [List.nil_append, pathTo]
    cases parseOf 10 x <;> rfl
  | y :: pre, out, h => by
    rw [pathTo] at h
    rw [List.cons_append, pathTo]
    cases hy : parseOf 10 y with
    | inr e => rw [hy] at h; cases h
    | inl n =>
      rw [hy] at h
      simp only at h ⊢
      cases hp : pathTo pre with
      | none => rw [hp] at h; cases h
      | some o =>
        rw [hp] at h
        simp only [Option.map_some, Option.some.injEq] at h
        subst h
        rw [pathTo_snoc x pre o hp]
        cases parseOf 10 x <;> rfl
theorem pathTo_bad : ∀ (a b : List (List UInt8)), pathTo a = none → pathTo (a ++ b) = none
  | [], b, h => by cases h
  | y :: a, b, h => by
    rw [pathTo] at h
    rw [List.cons_append, pathTo]
    cases hy : parseOf 10 y with
    | inr e => rfl
    | inl n =>
      rw [hy] at h
      simp only at h ⊢
      cases hp : pathTo a with
      | none => rw [pathTo_bad a b hp]; rfl
      | some o => rw [hp] at h; cases h
theorem band62 (n : Nat) (h : n < 18446744073709551616) : IntKind.i64.wrap (bits .and .u64 (n : Int) 4611686018427387903) = ((n % 4611686018427387904 : Nat) : Int) := by
  have e : bits .and .u64 (n : Int) 4611686018427387903 = ((n &&& 4611686018427387903 : Nat) : Int) := by
    have hx : n &&& 4611686018427387903 < 2 ^ 62 := Nat.and_lt_two_pow _ (by omega)
    show IntKind.u64.wrap ((BitVec.ofInt 64 (n : Int) &&& BitVec.ofInt 64 4611686018427387903).toNat : Int) = _
    have h1 : (BitVec.ofInt 64 (n : Int)).toNat = n := by
      rw [BitVec.toNat_ofInt]; omega
    have h2 : (BitVec.ofInt 64 4611686018427387903).toNat = 4611686018427387903 := by decide
    rw [BitVec.toNat_and, h1, h2, IntKind.wrap_u64]
    omega
  rw [e, show n &&& 4611686018427387903 = n % 4611686018427387904 from Nat.and_two_pow_sub_one_eq_mod n 62, IntKind.wrap_i64]
  omega
end Ex
set_option maxRecDepth 100000 in
theorem SplitDot_any (s : List UInt8) (w : World) : Calls Tryd.prog 97 #[.string (bstr s), .string (bstr [46])] w fun e w' => e = .returned (.func (.func 131) #[] #[.pointer (some ⟨w.heap.size + 1, 0, none⟩), .pointer (some ⟨w.heap.size, 0, none⟩), .pointer (some ⟨w.heap.size + 2, 0, none⟩)]) ∧
    SeqB w' w.heap.size s ∧ Below w.heap.size w w' ∧ w'.heap.size = w.heap.size + 3 := by
  have h1 : Calls Tryd.prog 116 #[.string (bstr s), .string (bstr [46]), .int .i64 0] w fun e w' => e = .returned (.func (.func 131) #[] #[.pointer (some ⟨w.heap.size + 1, 0, none⟩), .pointer (some ⟨w.heap.size, 0, none⟩), .pointer (some ⟨w.heap.size + 2, 0, none⟩)]) ∧
    w' = ((w.alloc (.cells #[.string (bstr s)] 9)).alloc (.cells #[.string (bstr [46])] 9)).alloc (.cells #[.int .i64 0] 3) := by
    go_enter Tryd.func116, Tryd.ntmps116
    go_wp2_with fail
    go_ret
    exact ⟨by simp, rfl⟩
  have H1 := Lib.hid h1; clear h1
  go_enter Tryd.func97, Tryd.ntmps97
  go_wp2_with fail
  refine H1.out.mono ?_
  rintro e w1 ⟨rfl, rfl⟩
  go_wp2_with fail
  go_ret
  have hb : Below w.heap.size w (((w.alloc (.cells #[.string (bstr s)] 9)).alloc (.cells #[.string (bstr [46])] 9)).alloc (.cells #[.int .i64 0] 3)) := (((Below.refl _ w).alloc (Nat.le_refl _) _).alloc (by simp) _).alloc (by simp; omega) _
  refine ⟨rfl, ⟨((RowAt.new w 9 #[.string (bstr s)]).alloc _).alloc _, ?_, ?_⟩, hb, by simp⟩
  · exact (RowAt.new' (w.alloc (.cells #[.string (bstr s)] 9)) (w.heap.size + 1) (by simp) 9 #[.string (bstr [46])]).alloc _
  · exact RowAt.new' ((w.alloc (.cells #[.string (bstr s)] 9)).alloc (.cells #[.string (bstr [46])] 9)) (w.heap.size + 2) (by simp) 3 #[.int .i64 0]
theorem KeptB.trans {B : Nat} {a b c : World} (h : KeptB B a b) (k : KeptB B b c) : KeptB B a c := fun i h1 h2 => (k i h1 h2).trans (h i h1 h2)
/-- what path holds: its two results, the numbers so far; since the world Wr -/
structure PdS (b0 N0 : Nat) (Wr W : World) (v : Value) (out : List Int) : Prop where
  res : Boxed W b0 55 (.slice none 0 0)
  err : Boxed W (b0 + 1) 27 .nilIface
  row : Boxed W (b0 + 2) 55 v
  own : W.ownsRow N0 3 1 v out.length (ivals out)
  kb : KeptB (b0 + 3) Wr W
  ko : KeepsOthers Wr W
  bl : Below b0 Wr W
  sz : N0 ≤ W.heap.size
theorem PdS.here {b0 N0 : Nat} {Wr W : World} {v : Value} {out : List Int} (h : PdS b0 N0 Wr W v out) : PdS b0 N0 W W v out := ⟨h.res, h.err, h.row, h.own, fun _ _ _ => rfl, KeepsOthers.refl _, Below.refl _ _, h.sz⟩
theorem PdS.moved {b0 N0 : Nat} {W W' : World} {v : Value} {out : List Int} {row : Option Nat} (h : PdS b0 N0 W W v out) (hg : W.grownBy W' row) (hr : ∀ r, row = some r → b0 + 3 ≤ r ∧ v.ownBlock ≠ some r) : PdS b0 N0 W' W' v out := by
  have hne : ∀ k, k < b0 + 3 → some k ≠ row := fun k hk e => by have := (hr k e.symm).1; omega
  refine ⟨h.res.kept hg (hne _ (by omega)), h.err.kept hg (hne _ (by omega)), h.row.kept hg (hne _ (by omega)), h.own.kept hg ?_, fun _ _ _ => rfl, KeepsOthers.refl _, Below.refl _ _, Nat.le_trans h.sz hg.size⟩
  cases hv : v.ownBlock with
  | none => exact .inl rfl
  | some g => exact .inr fun e => by have := (hr g e.symm).2; exact this hv
theorem PdS.pushed {b0 N0 n : Nat} {Wr W w1 : World} {v v' : Value} {out out' : List Int} {tmp : Obj} (h : PdS b0 N0 Wr W v out) (hN : b0 + 6 ≤ N0)
    (hown' : w1.ownsRow N0 3 1 v' n (ivals out')) (hn : n = out'.length) (hgrow : (W.alloc tmp).grownBy w1 v.ownBlock) : Boxed w1 (b0 + 2) 55 v ∧ PdS b0 N0 Wr (w1.setCell ⟨b0 + 2, 0, none⟩ v') v' out' := by
  subst hn
  have hz := h.sz
  have hlt := h.own.lt
  have hne : ∀ k, k < N0 → some k ≠ v.ownBlock := fun k hk e => by have := (hlt k e.symm).1; omega
  have hlt' := hown'.lt
  have hg2 : w1.grownBy (w1.setCell ⟨b0 + 2, 0, none⟩ v') (some (b0 + 2)) := grownBy_setCell' w1 (b0 + 2) v'
  have hr1 := (h.row.alloc tmp).kept hgrow (hne _ (by omega))
  refine ⟨hr1, ?_⟩
  have hk1 : ∀ k, k < N0 → w1.heap[k]? = W.heap[k]? := fun k hk => (hgrow.block k (by simp; omega) (hne k hk)).trans (Below.heap_alloc W tmp k (by omega))
  have hk2 : ∀ k, k ≠ b0 + 2 → (w1.setCell ⟨b0 + 2, 0, none⟩ v').heap[k]? = w1.heap[k]? := fun k hk => Below.heap_setCell _ _ _ _ hk
  refine ⟨((h.res.alloc tmp).kept hgrow (hne _ (by omega))).other (by omega) _, ((h.err.alloc tmp).kept hgrow (hne _ (by omega))).other (by omega) _, hr1.set v', hown'.kept hg2 ?_,
    h.kb.trans fun k h1 h2 => (hk2 k (by omega)).trans (hk1 k (by omega)), h.ko.trans (((KeepsOthers.alloc W tmp).trans (KeepsOthers.of_grownBy hgrow fun j o ej hj => ?_)).trans (KeepsOthers.setCell _ _ _)), ?_, ?_⟩
  · cases hv : v'.ownBlock with
    | none => exact .inl rfl
    | some g => exact .inr (by have := (hlt' g hv).1; intro e; injection e with e; omega)
  · rcases (h.own.alloc tmp).2 with ⟨rfl, _⟩ | ⟨g, cap, cur, rfl, _, hgb, _⟩
    · simp [Value.ownBlock] at ej
    · obtain rfl : g = j := by simpa [Value.ownBlock] using ej
      rw [hgb] at hj; cases hj; rfl
  · refine h.bl.trans ⟨hgrow.os, hgrow.tape, hgrow.output, ?_, fun k hk => (hk2 k (by omega)).trans (hk1 k (by omega))⟩
    have := hgrow.size
    simp at this ⊢; omega
  · have := hgrow.size
    simp at this ⊢; omega
theorem ownsForm' {W : World} {base : Nat} {e : TypeId} {size : Nat} {v : Value} {k : Nat} {xs : List Value} (h : W.ownsRow base e size v k xs) : ∃ a c, v = .slice a k c := by
  rcases h.2 with ⟨h1, h2⟩ | ⟨g, cap, _, h1, _⟩
  · exact ⟨none, 0, by rw [h1, h2]⟩
  · exact ⟨_, cap, h1⟩
/-- the loop's holding, over the words that have been read -/
def PdI (b0 N0 : Nat) (w0 : World) (pre : List (List UInt8)) (W : World) : Prop := ∃ v out, PdS b0 N0 W W v out ∧ Ex.pathTo pre = some out ∧ out.length = pre.length ∧ Below b0 w0 W
/-- its holding behind a word that is no number -/
def PdX (b0 : Nat) (w0 : World) (L : List (List UInt8)) (W : World) : Prop := Ex.pathTo L = none ∧ Boxed W b0 55 (.slice none 0 0) ∧ Boxed W (b0 + 1) 27 (.iface 31 (.int .i64 3)) ∧ Below b0 w0 W
theorem PdI.moved {b0 N0 : Nat} {w0 W W' : World} {pre : List (List UInt8)} {row : Option Nat} (h : PdI b0 N0 w0 pre W) (hg : W.grownBy W' row) (hr : ∀ r, row = some r → b0 + 3 ≤ r ∧ (N0 ≤ r → ∃ o : Obj, W.heap[r]? = some o ∧ o.isCells = false)) : PdI b0 N0 w0 pre W' := by
  obtain ⟨v, out, hS, hP, hl, hB⟩ := h
  refine ⟨v, out, hS.moved hg fun r e => ⟨(hr r e).1, fun hv => ?_⟩, hP, hl, hB.grown hg (by have := hB.size; have := hS.row.lt; omega) fun r e => by have := (hr r e).1; omega⟩
  have hlt := hS.own.lt r hv
  obtain ⟨o, ho, hc⟩ := (hr r e).2 hlt.1
  rcases hS.own.2 with ⟨rfl, _⟩ | ⟨g, cap, cur, rfl, _, hgb, _⟩
  · simp [Value.ownBlock] at hv
  · obtain rfl : g = r := by simpa [Value.ownBlock] using hv
    rw [hgb] at ho; cases ho; cases hc
theorem PdX.moved {b0 : Nat} {w0 W W' : World} {L : List (List UInt8)} {row : Option Nat} (h : PdX b0 w0 L W) (hg : W.grownBy W' row) (hr : ∀ r, row = some r → b0 + 3 ≤ r) : PdX b0 w0 L W' := by
  obtain ⟨hP, h1, h2, hB⟩ := h
  have hne : ∀ k, k < b0 + 3 → some k ≠ row := fun k hk e => by have := hr k e.symm; omega
  exact ⟨hP, h1.kept hg (hne _ (by omega)), h2.kept hg (hne _ (by omega)), hB.grown hg (by have := hB.size; have := h2.lt; omega) fun r e => by have := hr r e; omega⟩
theorem parse_lt' {b : Nat} {l : List UInt8} {n : Nat} (h : Num.parseOf b l = .inl n) : n < 18446744073709551616 := by
  unfold Num.parseOf at h
  split at h
  · cases h
  · split at h
    · split at h
      · cases h; assumption
      · cases h
    · cases h
theorem own_far {W : World} {N0 b n : Nat} {e : TypeId} {v : Value} {xs : List Value} (h : W.ownsRow N0 e 1 v n xs) (hb : b < N0) (u : Value) : (W.setCell ⟨b, 0, none⟩ u).ownsRow N0 e 1 v n xs := by
  refine h.kept (grownBy_setCell' W b u) ?_
  cases hv : v.ownBlock with
  | none => exact .inl rfl
  | some g => exact .inr (by have := (h.lt g hv).1; intro e; injection e with e; omega)
theorem own_put {W : World} {N0 D n : Nat} {e : TypeId} {v : Value} {xs : List Value} {o : Obj} (h : W.ownsRow N0 e 1 v n xs) (hD : W.heap[D]? = some o) (hc : o.isCells = false) (o' : Obj) : (W.putObj D o').ownsRow N0 e 1 v n xs := by
  refine h.kept (grownBy_putObj' W D o') ?_
  rcases h.2 with ⟨rfl, _⟩ | ⟨g, cap, cur, rfl, _, hgb, _⟩
  · exact .inl rfl
  · refine .inr fun e => ?_
    obtain rfl : g = D := by simpa [Value.ownBlock] using e
    rw [hgb] at hD; cases hD; cases hc
def PathOut (o : Option (List Int)) (B : Nat) (e : Ending) (w' : World) : Prop := match o with
  | some l => ∃ a cap, e = .returned (.tuple #[.slice a l.length cap, .nilIface]) ∧ Owns w' B 3 1 a l.length cap (ivals l)
  | none => e = .returned (.tuple #[.slice none 0 0, .iface 31 (.int .i64 3)])
theorem infoI64p : (Tryd.prog.info? 3).map (fun i => (i.zero, i.size, i.bytes)) = some (some (.int .i64 0), 1, 8) := by kernel_rfl
set_option maxRecDepth 100000 in
set_option maxHeartbeats 4000000 in
theorem path_any (s : List UInt8) (w : World) (hsl : s.length ≤ 2000) :
    Calls Tryd.prog 70 #[.string (bstr s)] w fun e w' => PathOut (Ex.pathI s) w.heap.size e w' ∧ Below w.heap.size w w' := by
  by_cases hm : s = [45]
  · subst hm
    rw [show Ex.pathI [45] = some [] from if_pos rfl]
    go_enter Tryd.func70, Tryd.ntmps70
    go_wp2_with fail
    exact bodyPost_ret (v := .tuple #[.slice none 0 0, .nilIface]) (by simp [results, Tryd.results70, go_sem]) rfl ⟨⟨none, 0, rfl, Owns.nil _ _ _ _⟩, ((Below.refl _ _).alloc (Nat.le_refl _) _).alloc (by simp) _⟩
  have hpi : Ex.pathI s = Ex.pathTo (Ex.partDot s) := if_neg hm
  have hbq : (s == [45]) = false := beq_eq_false_iff_ne.2 hm
  obtain ⟨L, hL⟩ : ∃ L, L = Ex.partDot s := ⟨_, rfl⟩
  have hne : L ≠ [] := by rw [hL]; exact Ex.partDot_ne s
  have hno : ∀ x ∈ L, 46 ∉ x := by rw [hL]; exact Ex.partDot_no s
  have hjo : Ex.joinDot L = s := by rw [hL]; exact Ex.partDot_join s
  have hln := Ex.partDot_len s
  rw [← hL] at hln hpi
  rw [hpi]
  have hss := fun w => SplitDot_any s w
  have HSS := Lib.hid hss; clear hss
  have HNE := Lib.hid hne; have HNO := Lib.hid hno; have HJO := Lib.hid hjo; have HLN := Lib.hid hln
  clear hm hpi hL hne hno hjo hln
  refine (callsIn_wide (n := 9)).1 ?_
  refine callsIn_of_wp_marks Tryd.func70 rfl trivial ?_ rfl
  simp only [Tryd.ntmps70, List.size_toArray, List.length_cons, List.length_nil, Nat.reduceAdd, Nat.reduceSub, Array.replicate_succ, Array.replicate_zero, List.push_toArray, List.append_toArray, List.nil_append, List.cons_append]
  refine wpIn_wide.2 ?_
  go_wp2_with (go_at_call 97; refine (HSS.out _).mono ?_; rintro e w' ⟨rfl, hSB, hb1, hsz1⟩)
  have hz3 : (((w.alloc (Obj.cells #[Value.slice none 0 0] 55)).alloc (Obj.cells #[Value.nilIface] 27)).alloc (Obj.cells #[Value.slice none 0 0] 55)).heap.size = w.heap.size + 1 + 1 + 1 := by simp
  rw [hz3] at hSB hb1 hsz1
  have b1 := Boxed.new w 55 (.slice none 0 0)
  have b2 := Boxed.new (w.alloc (.cells #[.slice none 0 0] 55)) 27 .nilIface
  have b3 := Boxed.new ((w.alloc (.cells #[.slice none 0 0] 55)).alloc (.cells #[.nilIface] 27)) 55 (.slice none 0 0)
  simp only [World.size_alloc] at b1 b2 b3
  have hB : Below w.heap.size w (((w.alloc (.cells #[.slice none 0 0] 55)).alloc (.cells #[.nilIface] 27)).alloc (.cells #[.slice none 0 0] 55)) := ((((Below.refl _ w).alloc (Nat.le_refl _) _).alloc (by simp) _).alloc (by simp; omega) _)
  have h0 : PdI w.heap.size w'.heap.size w [] w' := ⟨.slice none 0 0, [], ⟨(hb1.block _ (by omega)).trans ((b1.alloc _).alloc _), (hb1.block _ (by omega)).trans (b2.alloc _), (hb1.block _ (by omega)).trans b3, World.ownsRow_nil _ _ _ _, fun _ _ _ => rfl, KeepsOthers.refl _, Below.refl _ _, Nat.le_refl _⟩, rfl, rfl, hB.trans (hb1.mono (by omega))⟩
  generalize hB3 : w.heap.size + 1 + 1 + 1 = B3 at *
  generalize hP2 : w.heap.size + 1 + 1 = P2 at *
  generalize hP1 : w.heap.size + 1 = P1 at *
  have hB3' : B3 = w.heap.size + 3 := by omega
  obtain rfl : P1 = w.heap.size + 1 := by omega
  obtain rfl : P2 = w.heap.size + 2 := by omega
  have HB3 := Lib.hid hB3'
  have HSZ := Lib.hid hsz1
  rw [← HJO.out] at hSB
  clear hB3 hB3' hb1 hP1 hP2 hz3 hsz1 b1 b2 b3 hB
  refine (wpIn_wide (n := 9)).1 ?_
  refine' range_cell rfl (by decide) (gf := 131) (lb := #[.pointer (some ⟨B3 + 1, 0, none⟩), .pointer (some ⟨B3, 0, none⟩), .pointer (some ⟨B3 + 2, 0, none⟩)]) rfl trivial (enters_of Tryd.func131 (by kernel_rfl) rfl)
    (split_steps B3 L HNE.out HNO.out (by rw [HJO.out]; omega) w' hSB) (by have := HSZ.out; omega) (fun h k => h.trans k) (fun W l o hl k h1 h2 => World.putObj_heap_other (by have := HSZ.out; omega)) (Below.refl _ _) (fun _ => rfl)
    (PdI w.heap.size w'.heap.size w) (fun _ => PdX w.heap.size w L)
    (fun s X Y row hs hg hr => hs.moved hg fun r e => ⟨by have := (hr r e).1; have := HB3.out; have := HSZ.out; omega, fun _ => (hr r e).2⟩)
    (fun s X Y row hs hg hr => hs.moved hg fun r e => by have := (hr r e).1; have := HB3.out; have := HSZ.out; omega)
    (fun s X Y row hs hg hr => hs.moved hg fun r e => ⟨by have := hr r e; have := HB3.out; omega, fun h => by have := hr r e; have := HSZ.out; omega⟩)
    (fun s X Y row hs hg hr => hs.moved hg fun r e => by have := hr r e; have := HB3.out; omega)
    h0 _ ?assign ?body ?done ?stop
  case assign =>
    intro l x W K hK
    gi_wp2
    exact hK
  case body =>
    rintro l pre x W ⟨v, out, hS, hP, hl, hB⟩ hpre
    have hxl : x.length ≤ 2000 := by
      have hm : x ∈ L := by obtain ⟨r, hr⟩ := hpre; rw [← hr]; simp
      have := HLN.out.1 x hm; omega
    have hpl : pre.length ≤ 2001 := by
      obtain ⟨r, hr⟩ := hpre
      have := HLN.out.2
      rw [← hr] at this
      simp at this
      omega
    have hpn := fun w => ParseN_any x 10 w (by omega) (by omega) (by omega)
    have hsn := Ex.pathTo_snoc x pre out hP
    have h64 := fun n => parse_lt' (b := 10) (l := x) (n := n)
    generalize Num.parseOf 10 x = R at *
    obtain ⟨a, c, rfl⟩ := ownsForm' hS.own
    have HS := Lib.hid hS; have HB := Lib.hid hB; have HLL := Lib.hid hl
    have HPRE := Lib.hid hpre
    clear hS hB hP hpre hl
    cases R with
    | inr e =>
      simp only [Num.parsed] at hpn
      simp only at hsn
      have HPN := Lib.hid hpn; have HSN := Lib.hid hsn
      have c0 := HS.out.res.cell; have g0 := HS.out.res.frozen
      have c1 := HS.out.err.cell; have g1 := HS.out.err.frozen
      clear hpn hsn h64
      gi_wp2
      refine ⟨trivial, (CallsIn.inRound l (callsIn_wide.2 (HPN.out _))).mono ?_⟩
      rintro e w1 ⟨rfl, rfl⟩
      gi_wp2
      have hz := HS.out.sz
      have hN : w.heap.size + 6 ≤ w'.heap.size := by have := HSZ.out; have := HB3.out; omega
      have r1 := (HS.out.res.set (.slice none 0 0)).other (B' := w.heap.size + 1) (by omega) (.iface 31 (.int .i64 3))
      have r2 := (HS.out.err.other (B' := w.heap.size) (by omega) (.slice none 0 0)).set (.iface 31 (.int .i64 3))
      have hnone : Ex.pathTo L = none := by
        obtain ⟨r, hr⟩ := HPRE.out
        rw [← hr]
        exact Ex.pathTo_bad _ r HSN.out
      exact ⟨((KeepsOthers.setCell _ _ _).trans (KeepsOthers.setCell _ _ _)).from _, hnone, r1, r2, (HB.out.setCell (p := ⟨w.heap.size, 0, none⟩) (Nat.le_refl _) _).setCell (p := ⟨w.heap.size + 1, 0, none⟩) (Nat.le_succ _) _⟩
    | inl n =>
      simp only [Num.parsed] at hpn
      simp only at hsn
      have hn64 := h64 n rfl
      have hband := Ex.band62 n hn64
      generalize n % 4611686018427387904 = m at *
      have HPN := Lib.hid hpn; have HSN := Lib.hid hsn
      have c2 := HS.out.row.cell; have g2 := HS.out.row.frozen
      have ho := HS.out.own
      have hz := HS.out.sz
      have hN : w.heap.size + 6 ≤ w'.heap.size := by have := HSZ.out; have := HB3.out; omega
      have HN := Lib.hid hN
      have hnc := (RowAt.new W 3 #[.int .i64 (m : Nat)]).cell0 0 (by simp)
      simp only [Array.toList, List.getElem_cons_zero] at hnc
      have h8 : (out.length + 1) * 8 ≤ 140737488355328 := by have := HLL.out; omega
      have hml : out.length + 1 ≤ maxLen := by unfold maxLen; have := HLL.out; omega
      have hbs : w'.heap.size ≤ (W.alloc (.cells #[.int .i64 (m : Nat)] 3)).heap.size := by rw [World.size_alloc]; omega
      have HLP : Hid (out.length + 1 = (out ++ [(m : Int)]).length) := Lib.hid (by simp)
      clear hpn hsn h64
      gi_wp2
      refine ⟨trivial, (CallsIn.inRound l (callsIn_wide.2 (HPN.out _))).mono ?_⟩
      rintro e w1 ⟨rfl, rfl⟩
      gi_wp2_with (gi_at_builtin; refine wpListIn_pushI _ rfl _ _ 55 rfl w'.heap.size 3 Tryd.underlying55 infoI64p _ out.length out (m : Int) rfl (ho.alloc _) _ _ rfl hnc h8 hml hbs ?_; intro v' w2 hown' hgrow; obtain ⟨ga, gc, rfl⟩ := ownsForm' hown'; obtain ⟨hr1, hS2⟩ := HS.out.pushed HN.out hown' HLP.out hgrow; have k2 := hr1.cell; have kf := hr1.frozen)
      have hS3 := hS2
      rw [show (Value.slice ga (out.length + 1) gc) = .slice ga (out ++ [(m : Int)]).length gc by rw [← HLP.out]] at hS3 ⊢
      refine ⟨hS3.ko.from _, fun k e1 e2 => hS3.kb k (by have := HB3.out; omega) (by have := HB3.out; omega), .slice ga (out ++ [(m : Int)]).length gc, out ++ [(m : Int)], hS3.here, HSN.out, by rw [← HLP.out, List.length_append, HLL.out]; rfl, HB.out.trans hS3.bl⟩
  case done =>
    rintro D W hD ⟨v, out, hS, hP, hl, hB⟩ hK
    obtain ⟨a, c, rfl⟩ := ownsForm' hS.own
    have hN : w.heap.size + 6 ≤ w'.heap.size := by have := HSZ.out; have := HB3.out; omega
    have c0 := hS.res.cell; have g0 := hS.res.frozen
    have c1 := hS.err.cell; have g1 := hS.err.frozen
    have c2 := hS.row.cell
    have HS := Lib.hid hS; have HB := Lib.hid hB; have HKD := Lib.hid hK; have HP := Lib.hid hP; have HN := Lib.hid hN
    clear hS hB hK hl hP hN
    go_wp2_with fail
    have r0 := (HS.out.res.set (.slice a out.length c)).other (B' := w.heap.size + 1) (by omega) .nilIface
    have r1 := (HS.out.err.other (B' := w.heap.size) (by omega) (.slice a out.length c)).set .nilIface
    have hbe : Below w.heap.size w ((W.setCell ⟨w.heap.size, 0, none⟩ (.slice a out.length c)).setCell ⟨w.heap.size + 1, 0, none⟩ .nilIface) := (HB.out.setCell (p := ⟨w.heap.size, 0, none⟩) (Nat.le_refl _) _).setCell (p := ⟨w.heap.size + 1, 0, none⟩) (Nat.le_succ _) _
    have hKD : ((W.setCell ⟨w.heap.size, 0, none⟩ (.slice a out.length c)).setCell ⟨w.heap.size + 1, 0, none⟩ .nilIface).heap[D]? = some (.deferred (some [])) :=
      ((Below.heap_setCell _ _ _ _ (show D ≠ w.heap.size + 1 by have := HN.out; omega)).trans (Below.heap_setCell _ _ _ _ (show D ≠ w.heap.size by have := HN.out; omega))).trans HKD.out
    have ho2 := own_far (own_far HS.out.own (b := w.heap.size) (by have := HN.out; omega) (.slice a out.length c)) (b := w.heap.size + 1) (by have := HN.out; omega) .nilIface
    clear c0 g0 c1 g1 c2
    generalize (W.setCell ⟨w.heap.size, 0, none⟩ (.slice a out.length c)).setCell ⟨w.heap.size + 1, 0, none⟩ .nilIface = W2 at *
    have e0 := (r0.kept (grownBy_putObj' W2 D (.deferred none)) (fun e => by injection e with e; have := HN.out; omega)).cell
    have e1 := (r1.kept (grownBy_putObj' W2 D (.deferred none)) (fun e => by injection e with e; have := HN.out; omega)).cell
    have hbf : Below w.heap.size w (W2.putObj D (.deferred none)) := hbe.grown (grownBy_putObj' W2 D (.deferred none)) (by have := r0.lt; omega) (fun k e => by injection e with e; have := HN.out; omega)
    have ho3 := own_put ho2 hKD rfl (.deferred none)
    refine ⟨by simp, .inl ⟨_, _, rfl, run_takeDeferred hKD, ?_⟩⟩
    refine ⟨.tuple #[.slice a out.length c, .nilIface], by simp [results, Tryd.results70, go_sem, e0, e1], ?_, hbf⟩
    rw [HP.out]
    exact ⟨a, c, rfl, Owns.mono ho3 (by have := HN.out; omega)⟩
  case stop =>
    rintro D pre W hD ⟨hP, h1, h2, hB⟩ hK
    have hN : w.heap.size + 6 ≤ w'.heap.size := by have := HSZ.out; have := HB3.out; omega
    have HKD := Lib.hid hK; have HP := Lib.hid hP; have H1 := Lib.hid h1; have H2 := Lib.hid h2; have HB := Lib.hid hB; have HN := Lib.hid hN
    clear hK hP h1 h2 hB hN
    gi_wp2
    have e0 := (H1.out.kept (grownBy_putObj' W D (.deferred none)) (fun e => by injection e with e; have := HN.out; omega)).cell
    have e1 := (H2.out.kept (grownBy_putObj' W D (.deferred none)) (fun e => by injection e with e; have := HN.out; omega)).cell
    have hbf : Below w.heap.size w (W.putObj D (.deferred none)) := HB.out.grown (grownBy_putObj' W D (.deferred none)) (by have := H1.out.lt; omega) (fun k e => by injection e with e; have := HN.out; omega)
    refine ⟨by simp, .inl ⟨_, _, rfl, run_takeDeferred HKD.out, ?_⟩⟩
    refine ⟨.tuple #[.slice none 0 0, .iface 31 (.int .i64 3)], by simp [results, Tryd.results70, go_sem, e0, e1], ?_, hbf⟩
    rw [HP.out]
    exact rfl
end Go.Proofs.YtnmbakibiaedhaaDoor
