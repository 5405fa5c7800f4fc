/- xxd.Load: what its loop holds; append, copy inside a loop over an iterator. -/
import Derived.Test.YtenhblpegobbjaaDoorSeqSplit
import Derived.Test.YtenhblpegobbjaaDoorInfo
import Derived.Lib.BufferWrite
namespace Go.Proofs.YtenhblpegobbjaaDoor
open Go.RowKit Go.Shelf
set_option linter.unusedVariables false
set_option linter.unusedSimpArgs false
attribute [local go_sem] Oper.semAt_some
theorem wpListIn_push0 {F : Fence} {nn : Nat} {P : Program} (w : World) {ops : Array Oper} {rest : List Oper} {o : Oper} {act : Act} {Q : Exit → Act → World → Prop} (hgd : o.guard = none) (s x : Operand) (t : TypeId)
    (hop : o.op = .call { callee := .builtin .append, args := #[s, x], argTypes := #[t, t] })
    (B : Nat) (e : TypeId) (ht : P.underlying t = some (.slice e)) (hinf : (P.info? e).map (fun i => (i.zero, i.size, i.bytes)) = some (some (.int .u8 0), 1, 1))
    (v : Value) (n : Nat) (l : List UInt8) (hs : act.eval s = v) (hown : w.ownsRow B e 1 v n (bvals l)) (ad : Addr) (c : Nat) (hx : act.eval x = .slice (some ad) 1 c) (hc : w.cell? (ad.add 0) = some (.int .u8 0))
    (hsz : n + 1 ≤ 140737488355328) (hbase : B ≤ w.heap.size)
    (h : ∀ v' w', w'.ownsRow B e 1 v' (n + 1) (bvals (l ++ [0])) → w.grownBy w' v.ownBlock → wpListIn F nn P ops Q rest (act.put o.dst v') w') :
    wpListIn F nn P ops Q (o :: rest) act w := by
  obtain ⟨i, hi, hz, hsize, hby⟩ := info_parts hinf
  refine wpListIn_append_own w hgd s x t hop B e i _ 1 1 ht hi hz hsize hby rfl (by decide) v n (bvals l) hs hown ad 1 c [.int .u8 0] hx rfl ?_ (by intro u hu; simp at hu; subst hu; rfl) (by unfold maxLen; omega) (by omega) hbase ?_
  · intro j u hj
    cases j with
    | zero => simp at hj; rw [← hj]; exact hc
    | succ j => simp at hj
  · intro v' w' r1 r2 _
    have e : bvals l ++ [.int .u8 0] = bvals (l ++ [0]) := by simp [bvals, bval]
    rw [e] at r1
    exact h v' w' r1 r2
theorem wpListIn_copyS {F : Fence} {nn : Nat} {P : Program} (w : World) {ops : Array Oper} {rest : List Oper} {o : Oper} {act : Act} {Q : Exit → Act → World → Prop} (hgd : o.guard = none) (d s : Operand) (dT sT : TypeId)
    (hop : o.op = .call { callee := .builtin .copy, args := #[d, s], argTypes := #[dT, sT] }) (elem : TypeId) (hu : P.underlying dT = some (.slice elem)) (hs : (P.info? elem).map (·.size) = some 1)
    (g o' dLen dCap : Nat) (m : List UInt8) (cur : Array Value) (t : TypeId) (hd : act.eval d = .slice (some ⟨g, o', none⟩) dLen dCap) (hm : act.eval s = .string (bstr m)) (hg : w.heap[g]? = some (.cells cur t (0, 0)))
    (hle : m.length ≤ dLen) (hfit : o' + m.length ≤ cur.size)
    (h : ∀ w', w' = w.setRow g (cur.toList.take o' ++ bvals m ++ cur.toList.drop (o' + m.length)).toArray → wpListIn F nn P ops Q rest (act.put o.dst (goInt m.length)) w') :
    wpListIn F nn P ops Q (o :: rest) act w := by
  replace h := h _ rfl
  refine wpListIn_plain hgd fun K hK' => ?_
  have hrun := Lib.run_copy_row_string (P := P) w dT sT o.type elem g o' dLen dCap (bstr m) cur t hu hs hg (by rw [bstr_size]; exact hle) (by rw [bstr_size]; exact hfit)
  rw [bstr_size, show Lib.byteCells (bstr m).data.toList = bvals m from rfl] at hrun
  unfold Oper.wpIn
  refine ⟨?_, ?_⟩
  · simp [Oper.about, hop, resolve, Target.leads, Sem.run_pure]
  · rw [Oper.semAt_plain F _ _ (by rw [hop]; intro c hc'; cases hc')]
    rw [List.append_assoc] at h hrun
    simp [execOp, hop, resolve, invoke, builtin, hd, hm, hrun, Result.andThen]
    exact hK' _ _ h
/-- what Load holds: its two results, the bytes so far, the place; since the world Wr -/
structure LdS (b0 N0 : Nat) (Wr W : World) (v : Value) (out : List UInt8) (F : Nat) : Prop where
  res : Boxed W b0 9 (.string ByteArray.empty)
  err : Boxed W (b0 + 1) 25 .nilIface
  row : Boxed W (b0 + 2) 41 v
  own : W.ownsRow N0 5 1 v out.length (bvals out)
  frm : Boxed W (b0 + 3) 3 (.int .i64 (F : Nat))
  kb : KeptB (b0 + 4) Wr W
  ko : KeepsOthers Wr W
  bl : Below b0 Wr W
  sz : N0 ≤ W.heap.size
theorem KeptB.trans {B : Nat} {a b c : World} (h : KeptB B a b) (k : KeptB B b c) : KeptB B a c := fun i h1 h2 => (k i h1 h2).trans (h i h1 h2)
theorem LdS.grown {b0 N0 F : Nat} {Wr W W' : World} {v : Value} {out : List UInt8} (h : LdS b0 N0 Wr W v out F) (hN : b0 + 7 ≤ N0) (hb : Below W.heap.size W W') : LdS b0 N0 Wr W' v out F := by
  have hz := h.sz
  have hg : W.grownBy W' none := ⟨hb.os, hb.tape, hb.output, hb.size, fun k hk _ => hb.block k hk⟩
  refine ⟨h.res.kept hg (by simp), h.err.kept hg (by simp), h.row.kept hg (by simp), h.own.kept hg ?_, h.frm.kept hg (by simp), h.kb.trans fun k h1 h2 => hb.block k (by omega), h.ko.trans ⟨hb.size, fun k o hk _ => (hb.block k (Array.getElem?_eq_some_iff.1 hk).1).trans hk⟩, h.bl.trans (hb.mono (by omega)), Nat.le_trans hz hb.size⟩
  cases hv : v.ownBlock with
  | none => exact .inl rfl
  | some g => exact .inr (by simp)
theorem LdS.pushed {b0 N0 F n : Nat} {Wr W w1 : World} {v v' : Value} {out out' : List UInt8} {tmp : Obj} (h : LdS b0 N0 Wr W v out F) (hN : b0 + 7 ≤ N0)
    (hown' : w1.ownsRow N0 5 1 v' n (bvals out')) (hn : n = out'.length) (hgrow : (W.alloc tmp).grownBy w1 v.ownBlock) : Boxed w1 (b0 + 2) 41 v ∧ LdS b0 N0 Wr (w1.setCell ⟨b0 + 2, 0, none⟩ v') v' out' F := by
  subst hn
  have hz := h.sz
  have hlt := h.own.lt
  have hne : ∀ k, k < N0 → some k ≠ v.ownBlock := fun k hk e => by have := (hlt k e.symm).1; omega
  have hlt' := hown'.lt
  have hg2 : w1.grownBy (w1.setCell ⟨b0 + 2, 0, none⟩ v') (some (b0 + 2)) := grownBy_setCell' w1 (b0 + 2) v'
  have hr1 := (h.row.alloc tmp).kept hgrow (hne _ (by omega))
  refine ⟨hr1, ?_⟩
  have hk1 : ∀ k, k < N0 → w1.heap[k]? = W.heap[k]? := fun k hk => (hgrow.block k (by simp; omega) (hne k hk)).trans (Below.heap_alloc W tmp k (by omega))
  have hk2 : ∀ k, k ≠ b0 + 2 → (w1.setCell ⟨b0 + 2, 0, none⟩ v').heap[k]? = w1.heap[k]? := fun k hk => Below.heap_setCell _ _ _ _ hk
  refine ⟨((h.res.alloc tmp).kept hgrow (hne _ (by omega))).other (by omega) _, ((h.err.alloc tmp).kept hgrow (hne _ (by omega))).other (by omega) _, hr1.set v', hown'.kept hg2 ?_, ((h.frm.alloc tmp).kept hgrow (hne _ (by omega))).other (by omega) _,
    h.kb.trans fun k h1 h2 => (hk2 k (by omega)).trans (hk1 k (by omega)), h.ko.trans (((KeepsOthers.alloc W tmp).trans (KeepsOthers.of_grownBy hgrow fun j o ej hj => ?_)).trans (KeepsOthers.setCell _ _ _)), ?_, ?_⟩
  · cases hv : v'.ownBlock with
    | none => exact .inl rfl
    | some g => exact .inr (by have := (hlt' g hv).1; intro e; injection e with e; omega)
  · rcases (h.own.alloc tmp).2 with ⟨rfl, _⟩ | ⟨g, cap, cur, rfl, _, hgb, _⟩
    · simp [Value.ownBlock] at ej
    · obtain rfl : g = j := by simpa [Value.ownBlock] using ej
      rw [hgb] at hj; cases hj; rfl
  · refine h.bl.trans ⟨hgrow.os, hgrow.tape, hgrow.output, ?_, fun k hk => (hk2 k (by omega)).trans (hk1 k (by omega))⟩
    have := hgrow.size
    simp at this ⊢; omega
  · have := hgrow.size
    simp at this ⊢; omega
theorem splice_bytes (cur : List Value) (out b : List UInt8) (n at_ : Nat) (hn : n = out.length) (ht : cur.take n = bvals out) (hf : at_ + b.length ≤ n) (hc : n ≤ cur.length) :
    (cur.take at_ ++ bvals b ++ cur.drop (at_ + b.length)).take n = bvals (out.take at_ ++ b ++ out.drop (at_ + b.length)) := by
  have hcur : cur = bvals out ++ cur.drop n := by rw [← ht, List.take_append_drop]
  have hbl : (bvals out).length = n := by rw [bvals_length, hn]
  generalize cur.drop n = rest at hcur
  subst hcur
  have h1 : (bvals out ++ rest).take at_ = bvals (out.take at_) := by
    rw [List.take_append_of_le_length (by omega)]
    simp [bvals, List.map_take]
  have h2 : (bvals out ++ rest).drop (at_ + b.length) = bvals (out.drop (at_ + b.length)) ++ rest := by
    rw [List.drop_append_of_le_length (by omega)]
    simp [bvals, List.map_drop]
  rw [h1, h2, ← List.append_assoc]
  have h3 : bvals (out.take at_) ++ bvals b ++ bvals (out.drop (at_ + b.length)) = bvals (out.take at_ ++ b ++ out.drop (at_ + b.length)) := by simp [bvals]
  rw [h3]
  have h4 : (bvals (out.take at_ ++ b ++ out.drop (at_ + b.length))).length = n := by
    rw [bvals_length, List.length_append, List.length_append, List.length_take, List.length_drop]
    omega
  rw [List.take_append_of_le_length (by omega), List.take_of_length_le (by omega)]
theorem LdS.copied {b0 N0 F g cap at_ : Nat} {Wr W : World} {out b : List UInt8} {cur : Array Value} (h : LdS b0 N0 Wr W (.slice (some ⟨g, 0, none⟩) out.length cap) out F) (hN : b0 + 7 ≤ N0) (hg : W.heap[g]? = some (.cells cur 5 (0, 0)))
    (hf : at_ + b.length ≤ out.length) : LdS b0 N0 Wr (W.setRow g (cur.toList.take at_ ++ bvals b ++ cur.toList.drop (at_ + b.length)).toArray) (.slice (some ⟨g, 0, none⟩) out.length cap) (out.take at_ ++ b ++ out.drop (at_ + b.length)) F := by
  have hz := h.sz
  rcases h.own.2 with ⟨h0, _⟩ | ⟨g', cap', cur', hv, hb, hg', h1, h2, h3, h4⟩
  · cases h0
  cases hv
  rw [hg] at hg'
  cases hg'
  have hk : ∀ k, k ≠ g → (W.setRow g (cur.toList.take at_ ++ bvals b ++ cur.toList.drop (at_ + b.length)).toArray).heap[k]? = W.heap[k]? := fun k hk => setRow_other W g k _ hk
  have hkg := setRow_heap W g cur (cur.toList.take at_ ++ bvals b ++ cur.toList.drop (at_ + b.length)).toArray 5 _ hg
  have hl : (out.take at_ ++ b ++ out.drop (at_ + b.length)).length = out.length := by
    rw [List.length_append, List.length_append, List.length_take, List.length_drop]; omega
  have hcl : out.length ≤ cur.toList.length := by have := cur.length_toList; omega
  refine ⟨(hk b0 (by omega)).trans h.res, (hk (b0 + 1) (by omega)).trans h.err, (hk (b0 + 2) (by omega)).trans h.row, ?_, (hk (b0 + 3) (by omega)).trans h.frm, h.kb.trans fun k e1 e2 => hk k (by omega), h.ko.trans ⟨by simp [World.setRow], fun k o hk' ho => ?_⟩, h.bl.trans ⟨rfl, rfl, rfl, by simp [World.setRow], fun k hk' => hk k (by omega)⟩, by simp [World.setRow]; exact hz⟩
  · rw [hl]
    refine ⟨by rw [bvals_length, hl, Nat.mul_one], .inr ⟨g, cap, _, rfl, hb, hkg, h1, h2, ?_, ?_⟩⟩
    · simp only [List.size_toArray, List.length_append, bvals_length, List.length_take, List.length_drop, Array.length_toList]
      have := cur.length_toList
      omega
    · rw [List.toList_toArray, Nat.mul_one]
      exact splice_bytes cur.toList out b out.length at_ rfl (by rw [Nat.mul_one] at h4; exact h4) hf hcl
  · by_cases hkg' : k = g
    · subst hkg'
      rw [hg] at hk'
      cases hk'
      cases ho
    · rw [hk k hkg']; exact hk'
theorem LdS.stored {b0 N0 F F' : Nat} {Wr W : World} {v : Value} {out : List UInt8} (h : LdS b0 N0 Wr W v out F) (hN : b0 + 7 ≤ N0) : LdS b0 N0 Wr (W.setCell ⟨b0 + 3, 0, none⟩ (.int .i64 (F' : Nat))) v out F' := by
  have hz := h.sz
  have hlt := h.own.lt
  have hk : ∀ k, k ≠ b0 + 3 → (W.setCell ⟨b0 + 3, 0, none⟩ (.int .i64 (F' : Nat))).heap[k]? = W.heap[k]? := fun k hk => Below.heap_setCell _ _ _ _ hk
  refine ⟨h.res.other (by omega) _, h.err.other (by omega) _, h.row.other (by omega) _, h.own.kept (grownBy_setCell' W (b0 + 3) _) ?_, h.frm.set _, h.kb.trans fun k e1 e2 => hk k (by omega), h.ko.trans (KeepsOthers.setCell _ _ _), h.bl.trans ⟨rfl, rfl, rfl, by simp, fun k e1 => hk k (by omega)⟩, by simp; exact hz⟩
  cases hv : v.ownBlock with
  | none => exact .inl rfl
  | some g => exact .inr (by have := (hlt g hv).1; intro e; injection e with e; omega)
end Go.Proofs.YtenhblpegobbjaaDoor
