/- Contract of package diff: changes. -/
import Derived.Test.YtmmkbjinkdgdbaaDiffD
namespace Go.Proofs.Ytmmkbjinkdgdbaa
open Go.RowKit
set_option linter.unusedVariables false
set_option linter.unusedSimpArgs false
set_option maxRecDepth 10000
namespace Diff
/-- a change -/
structure Ch where
  from_ : Nat
  to_ : Nat
  text : List UInt8
def chCell (c : Ch) : List Value := [.int .i64 (c.from_ : Nat), .int .i64 (c.to_ : Nat), .string (bstr c.text)]
def chCells (l : List Ch) : List Value := l.flatMap chCell
theorem chCells_length (l : List Ch) : (chCells l).length = l.length * 3 := by
  induction l with
  | nil => rfl
  | cons e l ih => simp only [chCells, List.flatMap_cons, List.length_append, List.length_cons] at ih ⊢; rw [ih]; simp [chCell]; omega
theorem chCells_append (l m : List Ch) : chCells (l ++ m) = chCells l ++ chCells m := by simp [chCells]
/-- where one is: the changes so far, a place, whether the last one goes on -/
structure St where
  out : List Ch
  at_ : Nat
  open_ : Bool
/-- the last one goes on -/
def ext (out : List Ch) (at_ : Nat) (e : Ed) : List Ch :=
  match out.getLast? with
  | some c => out.dropLast ++ [⟨c.from_, at_ + e.n, c.text ++ e.text⟩]
  | none => []
theorem ext_snoc (m : List Ch) (c : Ch) (at_ : Nat) (e : Ed) : ext (m ++ [c]) at_ e = m ++ [⟨c.from_, at_ + e.n, c.text ++ e.text⟩] := by simp [ext]
def stepC (s : St) (e : Ed) : St :=
  if e.what = 1 then ⟨s.out, s.at_ + e.n, false⟩
  else if s.open_ then ⟨ext s.out s.at_ e, s.at_ + e.n, true⟩
  else ⟨s.out ++ [⟨s.at_, s.at_ + e.n, e.text⟩], s.at_ + e.n, true⟩
def chs (l : List Ed) : List Ch := (l.foldl stepC ⟨[], 0, false⟩).out
/-- on the way -/
structure Chg (l : List Ed) (k : Nat) (s : St) : Prop where
  rest : ((l.drop k).foldl stepC s).out = chs l
  more : s.open_ = true → ∃ m c, s.out = m ++ [c]
  len : s.out.length ≤ k
  low : s.at_ ≤ k * 4000
  texts : ∀ c ∈ s.out, c.from_ ≤ k * 4000 ∧ c.to_ ≤ k * 4000 ∧ c.text.length ≤ k * 4000
theorem Chg.start (l : List Ed) : Chg l 0 ⟨[], 0, false⟩ := ⟨rfl, fun h => (by cases h), by simp, by simp, fun c hc => (by cases hc)⟩
theorem Chg.keep {l : List Ed} {k : Nat} {s : St} {e : Ed} (h : Chg l k s) (hd : l.drop k = e :: l.drop (k + 1)) (hw : e.what = 1) (hn : e.n ≤ 4000) : Chg l (k + 1) ⟨s.out, s.at_ + e.n, false⟩ := by
  obtain ⟨h1, h2, h3, h4, h5⟩ := h
  refine ⟨?_, fun h => (by cases h), by show s.out.length ≤ k + 1; omega, by show s.at_ + e.n ≤ (k + 1) * 4000; omega, fun c hc => by have := h5 c hc; omega⟩
  rw [hd, List.foldl_cons, stepC, if_pos hw] at h1
  exact h1
theorem Chg.more_ {l : List Ed} {k : Nat} {s : St} {e : Ed} {m : List Ch} {c : Ch} (h : Chg l k s) (hd : l.drop k = e :: l.drop (k + 1)) (hw : e.what ≠ 1) (hn : e.n ≤ 4000) (ht : e.text.length ≤ 4000) (ho : s.open_ = true) (hs : s.out = m ++ [c]) :
    Chg l (k + 1) ⟨m ++ [⟨c.from_, s.at_ + e.n, c.text ++ e.text⟩], s.at_ + e.n, true⟩ := by
  obtain ⟨h1, h2, h3, h4, h5⟩ := h
  refine ⟨?_, fun _ => ⟨m, _, rfl⟩, ?_, by show s.at_ + e.n ≤ (k + 1) * 4000; omega, fun d hd' => ?_⟩
  · rw [hd, List.foldl_cons, stepC, if_neg hw, if_pos ho, hs, ext_snoc] at h1
    exact h1
  · rw [hs] at h3; simp at h3 ⊢; omega
  · rcases List.mem_append.mp hd' with hx | hx
    · have := h5 d (by rw [hs]; simp [hx]); omega
    · rw [List.mem_singleton.mp hx]
      have := h5 c (by rw [hs]; simp)
      refine ⟨by show c.from_ ≤ (k + 1) * 4000; omega, by show s.at_ + e.n ≤ (k + 1) * 4000; omega, ?_⟩
      show (c.text ++ e.text).length ≤ (k + 1) * 4000
      rw [List.length_append]; omega
theorem Chg.new {l : List Ed} {k : Nat} {s : St} {e : Ed} (h : Chg l k s) (hd : l.drop k = e :: l.drop (k + 1)) (hw : e.what ≠ 1) (hn : e.n ≤ 4000) (ht : e.text.length ≤ 4000) (ho : s.open_ = false) :
    Chg l (k + 1) ⟨s.out ++ [⟨s.at_, s.at_ + e.n, e.text⟩], s.at_ + e.n, true⟩ := by
  obtain ⟨h1, h2, h3, h4, h5⟩ := h
  refine ⟨?_, fun _ => ⟨s.out, _, rfl⟩, ?_, by show s.at_ + e.n ≤ (k + 1) * 4000; omega, fun d hd' => ?_⟩
  · rw [hd, List.foldl_cons, stepC, if_neg hw, if_neg (by rw [ho]; simp)] at h1
    exact h1
  · simp; omega
  · rcases List.mem_append.mp hd' with hx | hx
    · have := h5 d hx; omega
    · rw [List.mem_singleton.mp hx]
      exact ⟨by show s.at_ ≤ (k + 1) * 4000; omega, by show s.at_ + e.n ≤ (k + 1) * 4000; omega, by show e.text.length ≤ (k + 1) * 4000; omega⟩
end Diff
theorem infoCh : (Try.prog.info? 138).map (fun i => (i.zero, i.size, i.bytes)) = some (some (.agg #[.int .i64 0, .int .i64 0, .string ByteArray.empty]), 3, 32) := by kernel_rfl
/-- wpList_push, the new element's block under a name of its own -/
theorem wpList_pushAt {P : Program} (w : World) (W : Nat) (hW : W = w.heap.size) {ops : Array Oper} {rest : List Oper} {o : Oper} {act : Act} {Q : Exit → Act → World → Prop} (hgd : o.guard = none) (s x : Operand) (t : TypeId)
    (ho : o.op = .call { callee := .builtin .append, args := #[s, x], argTypes := #[t, t] })
    (B : Nat) (e : TypeId) (z : Value) (size bytes : Nat) (ht : P.underlying t = some (.slice e)) (hinf : (P.info? e).map (fun i => (i.zero, i.size, i.bytes)) = some (some z, size, bytes)) (hzs : z.cells.size = size) (hsz : 0 < size)
    (a : Option Addr) (n cap : Nat) (xs : List Value) (hs : act.eval s = .slice a n cap) (hown : Owns w B e size a n cap xs)
    (news : List Value) (hl : news.length = size) (h1 : ∀ u ∈ news, u.oneCell' = true) (hx : act.eval x = .slice (some ⟨W, 0, none⟩) 1 1)
    (h63 : n + 1 ≤ maxLen) (hbytes : (n + 1) * bytes ≤ 140737488355328) (hbase : B ≤ w.heap.size)
    (h : ∀ a' cap' w', Owns w' B e size a' (n + 1) cap' (xs ++ news) → w.grownBy w' (blk a) → (∀ x, a' = some x → a = some x ∨ w.heap.size < x.block) → w.heap.size < w'.heap.size →
      (∃ g, a' = some ⟨g, 0, none⟩) → wpList P ops Q rest (act.put o.dst (.slice a' (n + 1) cap')) w') :
    wpList P ops Q (o :: rest) act (w.alloc (.cells news.toArray e)) := by
  subst hW
  exact wpList_push w hgd s x t ho B e z size bytes ht hinf hzs hsz a n cap xs hs hown news hl h1 hx h63 hbytes hbase h
set_option maxHeartbeats 2000000 in
set_option maxRecDepth 100000 in
theorem changes_any (x : Option Addr) (n cap B' : Nat) (l : List Diff.Ed) (w : World) (hl : Owns w B' 99 3 x n cap (Diff.edsCells l)) (hln : l.length = n) (hn : n ≤ 4000) (hb : ∀ f ∈ l, f.n ≤ 4000 ∧ f.text.length ≤ 4000) :
    Calls Try.prog 82 #[.slice x n cap] w fun r w' => ∃ a m c, r = .returned (.slice a m c) ∧ m = (Diff.chs l).length ∧ m ≤ 4000 ∧ Owns w' w.heap.size 138 3 a m c (Diff.chCells (Diff.chs l)) ∧ (∀ c ∈ Diff.chs l, c.from_ ≤ 16000000 ∧ c.to_ ≤ 16000000 ∧ c.text.length ≤ 16000000) ∧ Below w.heap.size w w' := by
  obtain ⟨B, hB⟩ : ∃ B, B = w.heap.size := ⟨_, rfl⟩
  rw [← hB]
  have hlo := hl.blk_lt
  rw [← hB] at hlo
  have HB := Lib.hid hB; clear hB
  have HL := Lib.hid hl; clear hl
  have HBD := Lib.hid hb; clear hb
  have HLO := Lib.hid hlo; clear hlo
  go_enter Try.func82, Try.ntmps82
  go_wp2_with fail
  go_loopw [3, 4, 5, 11] (fun v3 v4 v5 v11 wr => ∃ (k m c : Nat) (a : Option Addr) (s : Diff.St), k ≤ n ∧ v11 = .int .i64 k ∧ v4 = .int .i64 (s.at_ : Nat) ∧ v5 = .bool s.open_ ∧ v3 = .slice a m c ∧ Hid (Owns wr B 138 3 a m c (Diff.chCells s.out)) ∧ Hid (Diff.Chg l k s) ∧ s.out.length = m ∧ Below B w wr) (fun _ _ _ v11 _ => n - (intOf v11).toNat)
  case atStart => exact ⟨0, 0, 0, none, ⟨[], 0, false⟩, by omega, rfl, rfl, rfl, rfl, Lib.hid (Owns.nil _ _ _ _), Lib.hid (Diff.Chg.start l), rfl, Below.refl _ _⟩
  case round =>
    obtain ⟨k, m, c, a, s, hk, rfl, rfl, rfl, rfl, HO, HS, hsm, hbe⟩ := hrel
    have hbB : B ≤ wr.heap.size := by have := hbe.size; have := HB.out; omega
    have hm4 : m ≤ 4000 := by have := HS.out.len; omega
    have hat4 : s.at_ ≤ 16000000 := by have := HS.out.low; omega
    by_cases hkn : k < n
    · cases x with
      | none => exfalso; have := HL.out.of_none; omega
      | some x =>
        have hown := HL.out.belowLt hbe HLO.out
        obtain ⟨e1, e2, e3, e4, e5⟩ := hown.row
        rw [e1]
        have hxb := HLO.out x rfl
        clear hown e1 e2 e3 e4
        generalize x.block = gl at *
        have hget : l[k]? = some (l[k]'(by omega)) := List.getElem?_eq_getElem (by omega)
        have hd : l.drop k = l[k]'(by omega) :: l.drop (k + 1) := List.drop_eq_getElem_cons (by omega)
        have hbd := HBD.out (l[k]'(by omega)) (List.getElem_mem _)
        have hsplit : Diff.edsCells l = Diff.edsCells (l.take k) ++ (Diff.edCells (l[k]'(by omega)) ++ Diff.edsCells (l.drop (k + 1))) := by
          conv => lhs; rw [← List.take_append_drop k l, hd]
          rw [Diff.edsCells_append]
          rfl
        have htl : (Diff.edsCells (l.take k)).length = k * 3 := by rw [Diff.edsCells_length, List.length_take]; congr 1; omega
        rw [hsplit] at e5
        clear hget hsplit
        generalize l[k]'(by omega) = e at *
        have hlen : 3 ≤ (Diff.edCells e ++ Diff.edsCells (l.drop (k + 1))).length := by simp [Diff.edCells]
        have c0 := e5.cell0 (k * 3) (by rw [List.length_append]; omega)
        have c1 := e5.cell0 (k * 3 + 1) (by rw [List.length_append]; omega)
        have c2 := e5.cell0 (k * 3 + 2) (by rw [List.length_append]; omega)
        rw [List.getElem_append_right (by omega), List.getElem_append_left (by simp [Diff.edCells]; omega)] at c0 c1 c2
        simp only [htl, Nat.sub_self, Nat.add_sub_cancel_left, Diff.edCells, List.getElem_cons_zero, List.getElem_cons_succ] at c0 c1 c2
        clear e5 htl hlen
        have HD := Lib.hid hd; clear hd
        have hkI : (k : Int) < (n : Int) := by omega
        have hsum : IntKind.i64.wrap ((s.at_ : Int) + (e.n : Int)) = (s.at_ : Int) + (e.n : Int) := IntWalk.i64_in _ ⟨by omega, by omega⟩
        have hsum2 : (s.at_ : Int) + (e.n : Int) = ((s.at_ + e.n : Nat) : Int) := by simp
        have HSUM := Lib.hid hsum2; clear hsum2
        by_cases hw : e.what = 1
        · have hwI : ((e.what : Int) == 1) = true := by rw [beq_iff_eq]; omega
          go_wp2_with fail
          go_roundw
          case rel => exact ⟨k + 1, m, c, a, ⟨s.out, s.at_ + e.n, false⟩, by omega, by go_num, val_int HSUM.out, rfl, rfl, Lib.hid (HO.out.alloc _), Lib.hid (HS.out.keep HD.out hw (by omega)), hsm, hbe.alloc hbB _⟩
          case measure => simp [intOf]; omega
        · have hwI : ((e.what : Int) == 1) = false := by rw [beq_eq_false_iff_ne]; omega
          have HW := Lib.hid hw; clear hw
          have hrow := RowAt.new wr 99 #[.int .i64 (e.what : Nat), .int .i64 (e.n : Nat), .string (bstr e.text)]
          have hrlt : wr.heap.size < (wr.alloc (.cells #[.int .i64 (e.what : Nat), .int .i64 (e.n : Nat), .string (bstr e.text)] 99)).heap.size := by simp
          have ho1 := HO.out.alloc (.cells #[.int .i64 (e.what : Nat), .int .i64 (e.n : Nat), .string (bstr e.text)] 99)
          have hb1 := hbe.alloc hbB (.cells #[.int .i64 (e.what : Nat), .int .i64 (e.n : Nat), .string (bstr e.text)] 99)
          have hab := HO.out.blk_lt
          have hB1 : B ≤ (wr.alloc (.cells #[.int .i64 (e.what : Nat), .int .i64 (e.n : Nat), .string (bstr e.text)] 99)).heap.size := by simp; omega
          have hml2 : m + 1 ≤ maxLen := by unfold maxLen; omega
          have hby : (m + 1) * 32 ≤ 140737488355328 := by omega
          cases ho : s.open_ with
          | true =>
            obtain ⟨mm, lc, hout⟩ := HS.out.more ho
            have hst := HS.out.more_ HD.out HW.out (by omega) (by omega) ho hout
            have hlc := HS.out.texts lc (by rw [hout]; simp)
            rw [hout, List.length_append, List.length_singleton] at hsm
            obtain ⟨q, rfl⟩ : ∃ q, m = q + 1 := ⟨m - 1, by omega⟩
            have hmm : mm.length = q := by omega
            cases a with
            | none => have := HO.out.of_none; omega
            | some y =>
              obtain ⟨r1, r2, r3, r4, r5⟩ := ho1.row
              have ho0 := HO.out
              rw [r1] at ho1 ho0 ⊢
              have hy := hab y rfl
              clear r1 r3 r4
              generalize y.block = g at *
              rw [hout, Diff.chCells_append] at r5 ho1 ho0
              have hcl := Diff.chCells_length mm
              rw [hmm] at hcl
              have hlast : Diff.chCells [lc] = [.int .i64 (lc.from_ : Nat), .int .i64 (lc.to_ : Nat), .string (bstr lc.text)] := rfl
              rw [hlast] at r5 ho1 ho0
              have HST := Lib.hid hst; clear hst
              have HOUT := Lib.hid hout; clear hout
              have ht3 : ((q + 1 : Nat) : Int) = (q : Int) + 1 := by simp
              have hqw : IntKind.i64.wrap ((q : Int) + 1 - 1) = (q : Int) := by rw [IntWalk.i64_in _ ⟨by omega, by omega⟩]; omega
              have hq1 : (q : Int) < (q : Int) + 1 := by omega
              have hcat1 : ¬ 9223372036854775807 < lc.text.length + e.text.length := by omega
              have hcat2 : lc.text.length + e.text.length ≤ 9223372036854775807 := by omega
              have hcat3 : (lc.text.length : Int) + (e.text.length : Int) ≤ 9223372036854775807 := by omega
              have c20 := r5.cell0 (q * 3) (by rw [List.length_append, hcl]; simp)
              have c21 := r5.cell0 (q * 3 + 1) (by rw [List.length_append, hcl]; simp)
              have c22 := r5.cell0 (q * 3 + 2) (by rw [List.length_append, hcl]; simp)
              rw [List.getElem_append_right (by omega)] at c20 c21 c22
              simp only [hcl, Nat.sub_self, Nat.add_sub_cancel_left, List.getElem_cons_zero, List.getElem_cons_succ] at c20 c21 c22
              have f21 := r5.frozen0 (q * 3 + 1) (by rw [List.length_append, hcl]; simp)
              have f22 := r5.frozen0 (q * 3 + 2) (by rw [List.length_append, hcl]; simp)
              have hgne : g ≠ wr.heap.size := by omega
              have h3l : (Diff.chCells mm ++ [Value.int .i64 (lc.from_ : Nat), .int .i64 (lc.to_ : Nat), .string (bstr lc.text)]).length = q * 3 + 3 := by rw [List.length_append, hcl]; rfl
              go_wp2_with fail
              have ho2 := (ho0.set (q * 3 + 1) (by omega) (.int .i64 ((s.at_ : Int) + (e.n : Int)))).alloc (.cells #[.int .i64 (e.what : Nat), .int .i64 (e.n : Nat), .string (bstr e.text)] 99)
              have hrow2 := RowAt.new' (wr.setCell ⟨g, q * 3 + 1, none⟩ (.int .i64 ((s.at_ : Int) + (e.n : Int)))) wr.heap.size (by simp) 99 #[.int .i64 (e.what : Nat), .int .i64 (e.n : Nat), .string (bstr e.text)]
              have hb2 := (hbe.setCell (p := ⟨g, q * 3 + 1, none⟩) r2 (.int .i64 ((s.at_ : Int) + (e.n : Int)))).alloc (by simp; omega) (.cells #[.int .i64 (e.what : Nat), .int .i64 (e.n : Nat), .string (bstr e.text)] 99)
              clear c0 c1 c2 c20 c21 c22 f21 f22 r5 ho1 hb1 hrow hrlt hB1 hml2 hby ho0
              generalize (wr.setCell ⟨g, q * 3 + 1, none⟩ (.int .i64 ((s.at_ : Int) + (e.n : Int)))).alloc (.cells #[.int .i64 (e.what : Nat), .int .i64 (e.n : Nat), .string (bstr e.text)] 99) = w3 at *
              rw [List.set_append_right _ _ (by omega), hcl, Nat.add_sub_cancel_left] at ho2
              have r6 := ho2.row.2.2.2.2
              have c22 := r6.cell0 (q * 3 + 2) (by rw [List.length_append, hcl]; simp)
              rw [List.getElem_append_right (by omega)] at c22
              simp only [hcl, Nat.add_sub_cancel_left, List.set_cons_succ, List.set_cons_zero, List.getElem_cons_zero, List.getElem_cons_succ] at c22
              have f22 := r6.frozen0 (q * 3 + 2) (by rw [List.length_append, hcl]; simp)
              have e2 := hrow2.cell0 2 (by simp)
              simp only [List.getElem_cons_succ, List.getElem_cons_zero] at e2
              clear r6
              go_still_tail 9, (by kernel_rfl)
              change wpList _ _ _ _ _ w3.drew
              go_wp2_with fail
              go_roundw
              case rel =>
                refine ⟨k + 1, q + 1, c, some ⟨g, 0, none⟩, ⟨mm ++ [⟨lc.from_, s.at_ + e.n, lc.text ++ e.text⟩], s.at_ + e.n, true⟩, by omega, by go_num, val_int HSUM.out, rfl, rfl, Lib.hid ?_, HST, by simp [hmm], (hb2.setCell (p := ⟨g, q * 3 + 2, none⟩) r2 _).drew⟩
                have hfin := (ho2.set (q * 3 + 2) (by rw [List.length_append, hcl]; simp) (.string (bstr (lc.text ++ e.text)))).drew
                rw [List.set_append_right _ _ (by omega), hcl, Nat.add_sub_cancel_left] at hfin
                simp only [List.set_cons_succ, List.set_cons_zero] at hfin
                rw [Diff.chCells_append]
                rw [HSUM.out] at hfin
                exact hfin
              case measure => simp [intOf]; omega
          | false =>
            have hst := HS.out.new HD.out HW.out (by omega) (by omega) ho
            have HST := Lib.hid hst; clear hst
            have hWs : wr.heap.size + 1 = (wr.alloc (.cells #[.int .i64 (e.what : Nat), .int .i64 (e.n : Nat), .string (bstr e.text)] 99)).heap.size := by simp
            have HWS := Lib.hid hWs; clear hWs
            have ht3 : ((m + 1 : Nat) : Int) = (m : Int) + 1 := by simp
            have hqw : IntKind.i64.wrap ((m : Int) + 1 - 1) = (m : Int) := by rw [IntWalk.i64_in _ ⟨by omega, by omega⟩]; omega
            have hq1 : (m : Int) < (m : Int) + 1 := by omega
            go_wp2_with (with_reducible refine wpList_pushAt _ _ HWS.out rfl _ _ 132 rfl B 138 (.agg #[.int .i64 0, .int .i64 0, .string ByteArray.empty]) 3 32 Try.underlying132 infoCh rfl (by decide) a m c _ rfl ho1 [.int .i64 (s.at_ : Nat), .int .i64 (s.at_ : Nat), .string ⟨#[]⟩] rfl (by simp [Value.oneCell']) rfl hml2 hby hB1 ?_; intro a2 cap2 w2 hown2 hgrow2 hloc2 hsz2 hex2; obtain ⟨ga, rfl⟩ := hex2; have hrow2 := hrow.of_heap (hgrow2.block _ hrlt (fun h => by cases a with | none => simp [blk] at h | some y => have := hab y rfl; simp [blk] at h; omega)); have hgne : ga ≠ wr.heap.size := (fun hEq => by rcases hloc2 _ rfl with h | h; (have := hab _ h; simp at this; omega); (simp at h; omega)); have hr5 := hown2.row; have c21 := hr5.2.2.2.2.cell0 (m * 3 + 1) (by rw [List.length_append, Diff.chCells_length, hsm]; simp); have f21 := hr5.2.2.2.2.frozen0 (m * 3 + 1) (by rw [List.length_append, Diff.chCells_length, hsm]; simp); have e1 := hrow2.cell0 1 (by simp); rw [List.getElem_append_right (by rw [Diff.chCells_length, hsm]; omega)] at c21; simp only [Diff.chCells_length, hsm, Nat.add_sub_cancel_left, List.getElem_cons_succ, List.getElem_cons_zero] at c21 e1)
            have hcl : (Diff.chCells s.out).length = m * 3 := by rw [Diff.chCells_length, hsm]
            have hBg : B ≤ ga := hr5.2.1
            have hw2B : B ≤ w2.heap.size := by omega
            have ho2 := hown2.set (m * 3 + 1) (by rw [List.length_append, hcl]; simp) (.int .i64 ((s.at_ : Int) + (e.n : Int)))
            have hrow3 := hrow2.far (p := ⟨ga, m * 3 + 1, none⟩) (fun h => hgne h.symm) (.int .i64 ((s.at_ : Int) + (e.n : Int)))
            have hb2 := (below_blk hb1 ho1 (Nat.le_refl _) hB1 hgrow2).setCell (p := ⟨ga, m * 3 + 1, none⟩) hBg (.int .i64 ((s.at_ : Int) + (e.n : Int)))
            clear c0 c1 c2 c21 f21 hr5 ho1 hb1 hrow hrlt hB1 hml2 hby hown2 hrow2 e1 hgrow2 hloc2 hsz2 HWS
            generalize w2.setCell ⟨ga, m * 3 + 1, none⟩ (.int .i64 ((s.at_ : Int) + (e.n : Int))) = w3 at *
            rw [List.set_append_right _ _ (by omega), hcl, Nat.add_sub_cancel_left] at ho2
            have r6 := ho2.row.2.2.2.2
            have c22 := r6.cell0 (m * 3 + 2) (by rw [List.length_append, hcl]; simp)
            rw [List.getElem_append_right (by omega)] at c22
            simp only [hcl, Nat.add_sub_cancel_left, List.set_cons_succ, List.set_cons_zero, List.getElem_cons_zero, List.getElem_cons_succ] at c22
            have f22 := r6.frozen0 (m * 3 + 2) (by rw [List.length_append, hcl]; simp)
            have e2 := hrow3.cell0 2 (by simp)
            simp only [List.getElem_cons_succ, List.getElem_cons_zero] at e2
            clear r6
            have hcat1 : ¬ 9223372036854775807 < e.text.length := by omega
            have hemp : (⟨#[]⟩ : ByteArray) = bstr [] := rfl
            rw [hemp] at c22
            go_still_tail 9, (by kernel_rfl)
            change wpList _ _ _ _ _ w3.drew
            go_wp2_with fail
            go_roundw
            case rel =>
              refine ⟨k + 1, m + 1, cap2, some ⟨ga, 0, none⟩, ⟨s.out ++ [⟨s.at_, s.at_ + e.n, e.text⟩], s.at_ + e.n, true⟩, by omega, by go_num, val_int HSUM.out, rfl, rfl, Lib.hid ?_, HST, by simp [hsm], (hb2.setCell (p := ⟨ga, m * 3 + 2, none⟩) hBg _).drew⟩
              have hfin := (ho2.set (m * 3 + 2) (by rw [List.length_append, hcl]; simp) (.string (bstr e.text))).drew
              rw [List.set_append_right _ _ (by omega), hcl, Nat.add_sub_cancel_left] at hfin
              simp only [List.set_cons_succ, List.set_cons_zero] at hfin
              rw [Diff.chCells_append]
              rw [HSUM.out] at hfin
              exact hfin
            case measure => simp [intOf]; omega
    · obtain rfl : k = n := by omega
      have hd : decide ((k : Int) < (k : Int)) = false := by simp
      have he := HS.out.rest
      rw [List.drop_eq_nil_of_le (by omega), List.foldl_nil] at he
      have hlen := HS.out.len
      have htx := HS.out.texts
      have HE := Lib.hid he; clear he
      have HTX := Lib.hid htx; clear htx
      go_wp2_with fail
      go_ret
      refine ⟨a, m, c, rfl, by rw [← HE.out, hsm], hm4, by rw [← HE.out]; exact HO.out, fun d hd => ?_, hbe⟩
      rw [← HE.out] at hd
      have := HTX.out d hd
      omega
end Go.Proofs.Ytmmkbjinkdgdbaa
