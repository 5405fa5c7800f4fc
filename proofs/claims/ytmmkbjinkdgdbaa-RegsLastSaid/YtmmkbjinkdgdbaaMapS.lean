/- A map of the call's own from bytes to strings, as a function of the byte; the two-step store of an entry. No program in sight. -/
import Derived.Test.YtmmkbjinkdgdbaaMem
import Derived.Maps.StringElems
import Derived.WideKeyEntry
namespace Go.Proofs.Ytmmkbjinkdgdbaa
open Go Go.RowKit Go.Maps Go.WideElems Go.ChangeMaps
set_option linter.unusedVariables false
set_option linter.unusedSimpArgs false
section
variable {P : Program} {t k e : TypeId} {w : World} {b n : Nat}
theorem setBlock_grown {w : World} {b : Nat} {es0 : Array MapEntry} {cl0 : Nat} (hb : w.heap[b]? = some (.map es0 cl0)) (o : Obj) : w.grownBy (ChangeMaps.setBlock w b o) (some b) :=
  ⟨rfl, rfl, rfl, by simp [ChangeMaps.setBlock], fun i _ hi => heap_setBlock_other hb _ (fun e => hi (by rw [e]))⟩
theorem setBlock_size (w : World) (b : Nat) (o : Obj) : (ChangeMaps.setBlock w b o).heap.size = w.heap.size := by simp [ChangeMaps.setBlock]
/-- the two steps of a store in a map: the entry, then its value -/
theorem entry_steps {H : Type} {R : Value → Option (DataW H × List MemPlace)} {D : DataW H} (h : w.ownsMap P k R b n D) (K : Keyed P k) (ht : P.underlying t = some (.map k e)) {z : Value} (hz : ∀ u : World, (zeroValue e).run P u = .ok z u) (hn : n < maxLen)
    {key val : Value} {kl : Lit} {d : DataW H} {ps : List MemPlace} (hkey : keyOf P k key = some kl) (hv : R val = some (d, ps)) :
    ∃ (v0 : Value) (st : Nat) (w1 : World), (Instr.mapEntry t (.map (some b)) key).run P w = .ok (.tuple #[v0, goInt st]) w1 ∧ w.grownBy w1 (some b) ∧ w1.heap.size = w.heap.size ∧
      ∀ w2 : World, w2.heap[b]? = w1.heap[b]? → ∃ w3, (Instr.entryStore t (.map (some b)) (goInt st) val).run P w2 = .ok () w3 ∧ w3.ownsMap P k R b (n + 1) (D.put kl d) ∧ w2.grownBy w3 (some b) ∧ w3.heap.size = w2.heap.size := by
  have hup := h.update K ht hn hkey hv
  obtain ⟨es, clock, hb, F, hs, rfl⟩ := h
  obtain ⟨s1, s2, _⟩ := F.stamped
  have key2 : ∀ (v0 : Value) (st : Nat) (es1 : Array MapEntry) (clock1 : Nat) (es' : Array MapEntry) (clock' : Nat),
      (Instr.mapEntry t (.map (some b)) key).run P w = .ok (.tuple #[v0, goInt st]) (ChangeMaps.setBlock w b (.map es1 clock1)) →
      (∀ w2 : World, w2.heap[b]? = some (.map es1 clock1) → (Instr.entryStore t (.map (some b)) (goInt st) val).run P w2 = .ok () (ChangeMaps.setBlock w2 b (.map es' clock'))) →
      (Instr.mapUpdate t (.map (some b)) key val).run P w = .ok () (ChangeMaps.setBlock w b (.map es' clock')) →
      ∃ (v0 : Value) (st : Nat) (w1 : World), (Instr.mapEntry t (.map (some b)) key).run P w = .ok (.tuple #[v0, goInt st]) w1 ∧ w.grownBy w1 (some b) ∧ w1.heap.size = w.heap.size ∧
      ∀ w2 : World, w2.heap[b]? = w1.heap[b]? → ∃ w3, (Instr.entryStore t (.map (some b)) (goInt st) val).run P w2 = .ok () w3 ∧ w3.ownsMap P k R b (n + 1) ((DataW.map ((es.toList.map (rg P k R)).foldr DataW.insert [])).put kl d) ∧ w2.grownBy w3 (some b) ∧ w3.heap.size = w2.heap.size := by
    intro v0 st es1 clock1 es' clock' h1 h2 h3
    refine ⟨v0, st, _, h1, setBlock_grown hb _, setBlock_size _ _ _, fun w2 hw2 => ?_⟩
    have hw2' : w2.heap[b]? = some (.map es1 clock1) := by rw [hw2]; exact heap_setBlock_same hb _
    refine ⟨_, h2 w2 hw2', ?_, setBlock_grown hw2' _, setBlock_size _ _ _⟩
    obtain ⟨w', hrun, ho, _⟩ := hup
    rw [h3] at hrun
    simp only [Result.ok.injEq, true_and] at hrun
    rw [← hrun] at ho
    obtain ⟨fs, cl, hb2, F2, hs2, hD2⟩ := ho
    rw [heap_setBlock_same hb] at hb2
    exact ⟨fs, cl, by rw [heap_setBlock_same hw2']; exact hb2, F2, hs2, hD2⟩
  rcases K.find w hkey es.toList F.keys with ⟨h1, h2⟩ | ⟨j, e0, h1, h2, h3⟩
  · refine key2 z clock (es.push ⟨key, z, clock⟩) (clock + 1) (es.push ⟨key, val, clock⟩) (clock + 1) ?_ (fun w2 hw2 => ?_) ?_
    · simp [Instr.mapEntry, run_underlying ht, MapKept.run_getObj_map hb, K.check w false hkey, h1, hz, MapKept.run_setObj_map _ hb, Result.andThen, ChangeMaps.setBlock]
    · have hidx : (es.push ⟨key, z, clock⟩).findIdx? (fun e => ((e.born : Nat) : Int) == ((clock : Nat) : Int)) = some es.size := by
        rw [findIdx_arr]
        refine findIdx_born (l := (es.push ⟨key, z, clock⟩).toList) (j := es.size) (e0 := ⟨key, z, clock⟩) ?_ (by simp)
        rw [Array.toList_push, List.map_append]
        refine List.nodup_append.2 ⟨s2, by simp, fun a ha c hc e1 => ?_⟩
        rw [List.map_cons, List.map_nil, List.mem_singleton] at hc
        obtain ⟨x, hx, rfl⟩ := List.mem_map.1 ha
        have := s1 x hx
        simp only at hc
        omega
      have hmod : (es.push ⟨key, z, clock⟩).modify es.size (fun e => { e with val := val }) = es.push ⟨key, val, clock⟩ := by
        apply Array.ext'
        rw [Array.toList_modify, Array.toList_push, Array.toList_push, ← Array.length_toList, modify_last]
      simp [Instr.entryStore, MapKept.run_getObj_map hw2, asInt, asIntOf, goInt, hidx, hmod, MapKept.run_setObj_map _ hw2, Result.andThen, ChangeMaps.setBlock]
    · simp [Instr.mapUpdate, run_underlying ht, MapKept.run_getObj_map hb, K.check w false hkey, h1, MapKept.run_setObj_map _ hb, Result.andThen, ChangeMaps.setBlock]
  · have hj : es[j]? = some e0 := by simpa using h2
    have hsame : es.modify j (fun e => { e with key := key }) = es := by
      apply Array.ext'
      rw [Array.toList_modify, modify_eq_set _ _ _ _ h2]
      have : ({ e0 with key := key } : MapEntry) = e0 := by rw [← h3]
      rw [this]
      exact set_self _ _ _ h2
    refine key2 e0.val e0.born es clock (es.modify j (fun e' => { e' with key := key, val := val })) clock ?_ (fun w2 hw2 => ?_) ?_
    · simp [Instr.mapEntry, run_underlying ht, MapKept.run_getObj_map hb, K.check w false hkey, h1, hj, h3, K.stays w hkey, hsame, MapKept.run_setObj_map _ hb, Result.andThen, ChangeMaps.setBlock]
    · have hidx : es.findIdx? (fun e => ((e.born : Nat) : Int) == ((e0.born : Nat) : Int)) = some j := by
        rw [findIdx_arr]
        exact findIdx_born s2 h2
      have hmod : es.modify j (fun e => { e with val := val }) = es.modify j (fun e' => { e' with key := key, val := val }) := by
        apply Array.ext'
        rw [Array.toList_modify, Array.toList_modify, modify_eq_set _ _ _ _ h2, modify_eq_set _ _ _ _ h2, ← h3]
      simp [Instr.entryStore, MapKept.run_getObj_map hw2, asInt, asIntOf, goInt, hidx, hmod, MapKept.run_setObj_map _ hw2, Result.andThen, ChangeMaps.setBlock]
    · simp [Instr.mapUpdate, run_underlying ht, MapKept.run_getObj_map hb, K.check w false hkey, h1, hj, h3, K.stays w hkey, MapKept.run_setObj_map _ hb, Result.andThen, ChangeMaps.setBlock]
end
/-- block g is a row of just the cells L -/
def Whole (w : World) (g : Nat) (e : TypeId) (L : List Value) : Prop := w.heap[g]? = some (.cells L.toArray e (0, 0))
theorem Whole.row {w : World} {g : Nat} {e : TypeId} {L : List Value} (h : Whole w g e L) : RowAt w g 0 e L :=
  ⟨L.toArray, (0, 0), h, fun i hi => by rw [Nat.zero_add]; simp, fun i _ _ => by simp⟩
theorem Whole.set {w : World} {g : Nat} {e : TypeId} {L : List Value} (h : Whole w g e L) (i : Nat) (u : Value) : Whole (w.setCell ⟨g, i, none⟩ u) g e (L.set i u) := by
  unfold Whole at h ⊢
  simp [World.setCell, Array.getElem?_modify, h]
theorem Whole.of_heap {w w' : World} {g : Nat} {e : TypeId} {L : List Value} (h : Whole w g e L) (hh : w'.heap[g]? = w.heap[g]?) : Whole w' g e L := hh.trans h
theorem Whole.alloc {w : World} {g : Nat} {e : TypeId} {L : List Value} (h : Whole w g e L) (o : Obj) : Whole (w.alloc o) g e L := h.of_heap (Below.heap_alloc w o g h.row.lt)
theorem Whole.drew {w : World} {g : Nat} {e : TypeId} {L : List Value} (h : Whole w g e L) : Whole w.drew g e L := h
theorem Whole.drewN {w : World} {g : Nat} {e : TypeId} {L : List Value} (h : Whole w g e L) (n : Nat) : Whole (w.drewN n) g e L := h
theorem Whole.far {w : World} {g : Nat} {e : TypeId} {L : List Value} (h : Whole w g e L) {p : Addr} (hp : g ≠ p.block) (u : Value) : Whole (w.setCell p u) g e L := h.of_heap (Below.heap_setCell w p u g hp)
theorem Whole.below {w w' : World} {g B : Nat} {e : TypeId} {L : List Value} (h : Whole w g e L) (hb : Below B w w') (hg : g < B) : Whole w' g e L := h.of_heap (hb.block g hg)
theorem Whole.new (w : World) (e : TypeId) (cs : Array Value) : Whole (w.alloc (.cells cs e)) w.heap.size e cs.toList := heap_alloc_new w _
/-- a function that is another at one place -/
def upd {α : Type} (F : Nat → α) (c : Nat) (l : α) : Nat → α := fun x => if x = c then l else F x
theorem upd_same {α : Type} (F : Nat → α) (c : Nat) (l : α) : upd F c l c = l := if_pos rfl
theorem upd_other {α : Type} (F : Nat → α) (c x : Nat) (l : α) (h : x ≠ c) : upd F c l x = F x := if_neg h
/-- block b is a map of the call's own, of at most n entries: at the byte c the string F c stands -/
def MapS (P : Program) (k e : TypeId) (w : World) (b n : Nat) (F : Nat → List UInt8) : Prop :=
  ∃ D : DataW Unit, w.ownsMap P k (plainElem P e) b n D ∧ IsMap D ∧ ∀ c : Nat, c < 256 → D.atKey (.int .u8 (c : Int)) (.lit (.string [])) = .lit (.string (F c))
section
variable {P : Program} {t k e : TypeId} {w : World} {b n : Nat} {F : Nat → List UInt8}
theorem u8_wf (c : Nat) (h : c < 256) : (Lit.int .u8 (c : Int)).wf = true := by
  have : IntKind.u8.wrap (c : Int) = (c : Int) := by rw [IntKind.wrap_u8]; omega
  have h1 : IntKind.u8.min = 0 := rfl
  have h2 : IntKind.u8.max = 255 := rfl
  simp [Lit.wf, h1, h2]
  omega
theorem u8_key (c : Nat) : WideAt.IsKeyLit (.int .u8 (c : Int)) := by unfold WideAt.IsKeyLit; trivial
theorem MapS.made (w : World) : MapS P k e (w.alloc (.map #[] 0)) w.heap.size 0 (fun _ => []) :=
  ⟨.map [], World.ownsMap_made _ _ _ _, isMap_empty, fun c hc => rfl⟩
theorem MapS.kept {w' : World} {row : Option Nat} (h : MapS P k e w b n F) (hg : w.grownBy w' row) (hne : some b ≠ row) : MapS P k e w' b n F := by
  obtain ⟨D, h1, h2⟩ := h
  exact ⟨D, h1.kept hg hne, h2⟩
theorem MapS.drewN (h : MapS P k e w b n F) (m : Nat) : MapS P k e (w.drewN m) b n F := h
theorem MapS.drew (h : MapS P k e w b n F) : MapS P k e w.drew b n F := h
theorem MapS.mono (h : MapS P k e w b n F) {m : Nat} (hm : n ≤ m) : MapS P k e w b m F := by
  obtain ⟨D, h1, h2⟩ := h
  exact ⟨D, h1.mono hm, h2⟩
theorem MapS.lt (h : MapS P k e w b n F) : b < w.heap.size := by obtain ⟨D, h1, _⟩ := h; exact h1.lt
theorem MapS.look (h : MapS P k e w b n F) (ht : P.underlying t = some (.map k e)) (hk : P.underlying k = some (.int .u8)) (he : P.underlying e = some .string) (hz : (zeroValue e).run P w = .ok (.string ⟨#[]⟩) w) (c : Nat) (hc : c < 256) :
    (Instr.lookup t (.map (some b)) (.int .u8 (c : Int)) false).run P w = .ok (.string (bstr (F c))) w := by
  obtain ⟨D, h1, h2, h3⟩ := h
  obtain ⟨v, ps, hrun, hv⟩ := h1.lookup (int_keyed hk) ht hz (plainElem_string he (show (⟨#[]⟩ : ByteArray).size ≤ maxLen by decide)) (keyOf_int_mk hk (u8_wf c hc))
  obtain ⟨s, rfl, hs, _⟩ := plainElem_string_inv he hv
  have h3' := h3 c hc
  simp only [Prod.mk.injEq] at hs
  rw [show (Lit.string (⟨#[]⟩ : ByteArray).data.toList) = Lit.string [] from rfl, h3'] at hs
  simp only [DataW.lit.injEq, Lit.string.injEq] at hs
  rw [hrun, eq_bstr s, hs.1]
theorem MapS.steps (h : MapS P k e w b n F) (ht : P.underlying t = some (.map k e)) (hk : P.underlying k = some (.int .u8)) (he : P.underlying e = some .string) (hz : ∀ u : World, (zeroValue e).run P u = .ok (.string ⟨#[]⟩) u) (hn : n < maxLen) (c : Nat) (hc : c < 256) (s : ByteArray) (hs : s.size ≤ maxLen) :
    ∃ (v0 : Value) (st : Nat) (w1 : World), (Instr.mapEntry t (.map (some b)) (.int .u8 (c : Int))).run P w = .ok (.tuple #[v0, Value.int .i64 (st : Int)]) w1 ∧ w.grownBy w1 (some b) ∧ w1.heap.size = w.heap.size ∧
      ∀ w2 : World, w2.heap[b]? = w1.heap[b]? → ∃ w3, (Instr.entryStore t (.map (some b)) (Value.int .i64 (st : Int)) (.string s)).run P w2 = .ok () w3 ∧ MapS P k e w3 b (n + 1) (upd F c s.data.toList) ∧ w2.grownBy w3 (some b) ∧ w3.heap.size = w2.heap.size := by
  obtain ⟨D, h1, h2, h3⟩ := h
  obtain ⟨v0, st, w1, e1, e2, e3, e4⟩ := entry_steps h1 (int_keyed hk) ht hz hn (keyOf_int_mk hk (u8_wf c hc)) (plainElem_string he hs)
  refine ⟨v0, st, w1, e1, e2, e3, fun w2 hw2 => ?_⟩
  obtain ⟨w3, f1, f2, f3, f4⟩ := e4 w2 hw2
  refine ⟨w3, f1, ⟨_, f2, h2.put _ _, fun x hx => ?_⟩, f3, f4⟩
  by_cases hxc : x = c
  · subst hxc
    rw [atKey_put_same h2 (u8_key x), upd_same]
  · rw [atKey_put_other (by intro h; injection h with h4 h5; exact hxc (by omega)), upd_other _ _ _ _ hxc]
    exact h3 x hx
end
end Go.Proofs.Ytmmkbjinkdgdbaa
